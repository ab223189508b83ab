/- Contracts: the reference's rows of an image, and what they leave of the columns. -/
import Derived.Test.YtliejhmlcdjpcaaX3
import Derived.Test.YtliejhmlcdjpcaaApp1
import Derived.Test.YtliejhmlcdjpcaaBlk
namespace Go.Proofs.Ytliejhmlcdjpcaa
open Go.RowKit

theorem own_one {α : Type} {R : RepT α} (hR : Rep R) (w : World) (E : TypeId) {u : Value} {x : α} {T : Bk} {lo : Nat} (hu : R T w u x) (hT : ∀ b, T b → lo ≤ b ∧ b < w.heap.size) (hlo : lo ≤ w.heap.size) :
    Own E R (Iv lo (w.heap.size + 1)) (w.alloc (.cells #[u] E)) (.slice (some ⟨w.heap.size, 0, none⟩) 1 1) [x] := by
  refine .inr ⟨w.heap.size, #[u], rfl, ⟨hlo, Nat.lt_succ_self _⟩, heap_alloc_new w _, by simp, by simp [maxLen], by simp, fun k b => T b ∧ k = 0, fun k b hb => ⟨⟨(hT b hb.1).1, Nat.lt_succ_of_lt (hT b hb.1).2⟩, by have := (hT b hb.1).2; omega⟩, fun j k b hj hk => by rw [hj.2, hk.2], fun k y hk => ?_⟩
  have hk0 : k = 0 := by
    have := (List.getElem?_eq_some_iff.1 hk).1
    simpa using this
  subst hk0
  simp at hk; subst hk
  exact ⟨u, rfl, hR.mono (fun b hb => ⟨hb, rfl⟩) (hR.same (fun b hb => Below.heap_alloc _ _ _ (hT b hb).2) hu)⟩
/-- the rows whose first cell is x -/
def rowPart (n : Nat) (k : Int) (x : Nat) : List (List Int) := if (x : Int) ≤ k then (bitRows n (k - x)).map ((x : Int) :: ·) else []
def rowUpTo (n : Nat) (k : Int) (x : Nat) : List (List Int) := (List.range x).flatMap (rowPart n k)
theorem rowUpTo_zero (n : Nat) (k : Int) : rowUpTo n k 0 = [] := by simp [rowUpTo]
theorem rowUpTo_succ (n : Nat) (k : Int) (x : Nat) : rowUpTo n k (x + 1) = rowUpTo n k x ++ rowPart n k x := by
  unfold rowUpTo
  rw [List.range_succ, List.flatMap_append]; simp
theorem rowUpTo_two (n : Nat) (k : Int) : rowUpTo n k 2 = bitRows (n + 1) k := by
  rw [rowUpTo_succ, rowUpTo_succ, rowUpTo_zero, bitRows]
  unfold rowPart
  simp
theorem bitRows_len : ∀ (n : Nat) (k : Int), (bitRows n k).length ≤ 2 ^ n
  | 0, k => by unfold bitRows; split <;> simp
  | n + 1, k => by
    unfold bitRows
    have h1 := bitRows_len n k
    have h2 := bitRows_len n (k - 1)
    rw [List.length_append, Nat.pow_succ]
    have a1 : (if 0 ≤ k then (bitRows n k).map (0 :: ·) else []).length ≤ 2 ^ n := by split <;> simp [h1]
    have a2 : (if 1 ≤ k then (bitRows n (k - 1)).map (1 :: ·) else []).length ≤ 2 ^ n := by split <;> simp [h2]
    omega
theorem bitRows_32 {n : Nat} (h : n ≤ 5) (k : Int) : (bitRows n k).length ≤ 32 := by
  have h1 := bitRows_len n k
  have h2 := Nat.pow_le_pow_right (n := 2) (by decide) h
  omega
theorem rowUpTo_len {n : Nat} (h : n ≤ 5) (k : Int) (x : Nat) : (rowUpTo n k x).length ≤ x * 32 := by
  induction x with
  | zero => simp [rowUpTo]
  | succ x ih =>
    rw [rowUpTo_succ, List.length_append]
    have : (rowPart n k x).length ≤ 32 := by
      unfold rowPart
      split
      · rw [List.length_map]; exact bitRows_32 h _
      · simp
    omega
theorem map_take_succ {α β : Type} (f : α → β) {L : List α} {j : Nat} {x : α} (h : L[j]? = some x) : (L.take (j + 1)).map f = (L.take j).map f ++ [f x] := by
  rw [List.take_add_one, h, List.map_append]; rfl
theorem infoIntsR : (Try.prog.info? 25).map (fun i => (i.zero, i.size, i.bytes)) = some (some (.slice none 0 0), 1, 24) := by kernel_rfl
set_option maxRecDepth 100000 in
set_option maxHeartbeats 4000000 in
theorem l05Rows_c : ∀ (n : Nat) (k : Int) (w : World), n ≤ 5 → -100 ≤ k → k ≤ 100 → Calls Try.prog 89 #[.int .i64 n, .int .i64 k] w (New 25 (Own 3 IntV) w (bitRows n k)) := by
  intro n
  induction n with
  | zero =>
    intro k w _ _ _
    by_cases hk : k = 0
    · subst hk
      have Hb := Lib.hid (show bitRows 0 0 = [[]] from rfl)
      have h1 := own_lit0 w 3 w.heap.size rIntV
      have hz : (w.alloc (.cells #[] 3)).heap.size = w.heap.size + 1 := by simp
      have h2 := own_one (rOwn (E := 3) rIntV) (w.alloc (.cells #[] 3)) 25 (lo := w.heap.size) h1 (fun b hb => ⟨hb.1, hb.2⟩) (by rw [hz]; omega)
      rw [hz] at h2
      have H2 := Lib.hid h2
      clear h1 hz h2
      go_enter Try.func89, Try.ntmps89
      go_wp2
      go_ret
      refine ⟨_, rfl, by rw [Hb.out]; exact (rOwn (rOwn rIntV)).mono (S := Iv w.heap.size (w.heap.size + 1 + 1)) (fun b hb => ⟨hb.1, by have := hb.2; simp at this ⊢; omega⟩) H2.out, ?_⟩
      exact (Below.pureAlloc w _).trans_pure (Below.pureAlloc _ _) (Nat.le_refl _)
    · have Hb := Lib.hid (show bitRows 0 k = [] from by unfold bitRows; rw [if_neg hk])
      have hd : (k == 0) = false := by rw [beq_eq_false_iff_ne]; exact hk
      clear hk
      go_enter Try.func89, Try.ntmps89
      go_wp2
      go_ret
      exact ⟨_, rfl, by rw [Hb.out]; exact Own.nil _ _ _ _, Below.refl _ _⟩
  | succ n ih =>
    intro k w hn hk1 hk2
    have hn : n ≤ 4 := by omega
    have IH := Lib.hid ih
    have Hfin2 := Lib.hid (rowUpTo_two n k)
    obtain ⟨N, hN⟩ : ∃ N : Nat, N = n + 1 := ⟨_, rfl⟩
    rw [← hN] at Hfin2 ⊢
    have hd0 : ((N : Int) == 0) = false := by rw [beq_eq_false_iff_ne]; omega
    have hn1 : (N : Int) - 1 = (n : Int) := by omega
    clear ih hN
    go_enter Try.func89, Try.ntmps89
    go_wp2
    go_loopw [5, 6] (fun v i wr => ∃ x : Nat, x ≤ 2 ∧ i = .int .i64 x ∧ Hid (Own 25 (Own 3 IntV) (Iv w.heap.size wr.heap.size) wr v (rowUpTo n k x)) ∧ Below w.heap.size w wr) (fun _ i _ => 2 - (intOf i).toNat)
    case atStart => exact ⟨0, by omega, rfl, by rw [rowUpTo_zero]; exact own_lit0 _ _ _ (rOwn rIntV), Below.pureAlloc _ _⟩
    case round =>
      obtain ⟨x, hx, rfl, Hown, hbel⟩ := hrel
      obtain ⟨wo, rfl⟩ : ∃ wo : World, wo = wr := ⟨_, rfl⟩
      have hBs := hbel.size
      by_cases hlt : x < 2
      · have hd1 : decide ((x : Int) < 2) = true := by rw [decide_eq_true_eq]; omega
        by_cases hkx : (x : Int) ≤ k
        · have hd2 : decide (k ≥ (x : Int)) = true := decide_eq_true hkx
          have hd3 : decide ((x : Int) ≤ k) = true := decide_eq_true hkx
          obtain ⟨L, hL⟩ : ∃ L, L = bitRows n (k - x) := ⟨_, rfl⟩
          have HL := Lib.hid hL
          have hLlen : L.length ≤ 32 := by rw [hL]; exact bitRows_32 (by omega) _
          have Hpart := Lib.hid (show rowPart n k x = L.map ((x : Int) :: ·) from by unfold rowPart; rw [if_pos hkx, hL])
          clear hL
          go_wp2_with (fail)
          refine (IH.out (k - x) _ (by omega) (by omega) (by omega)).mono ?_
          rintro e wl ⟨vl, rfl, ol, bl⟩
          rw [← HL.out] at ol
          obtain ⟨aL, cL, rfl, -⟩ := id ol.grid
          have hsl := bl.size
          have HoL := Lib.hid ol
          have Hbl := Lib.hid bl
          have hleL : L.length ≤ 9223372036854775807 := by omega
          have Hown2 := Lib.hid (Own.keep (rOwn rIntV) Hown.out bl (Nat.le_refl _))
          have hbl := hbel.trans_pure bl (Nat.le_refl _)
          clear ol Hown
          go_wp2
          go_loopw [5, 30] (fun v j wr => ∃ j' : Nat, j' ≤ L.length ∧ j = .int .i64 j' ∧ ∃ S, Hid (Own 25 (Own 3 IntV) S wr v (rowUpTo n k x ++ (L.take j').map ((x : Int) :: ·))) ∧ Hid (∀ b, S b → (Iv w.heap.size wo.heap.size b ∨ wl.heap.size ≤ b) ∧ b < wr.heap.size) ∧ Hid (Only (Iv w.heap.size wo.heap.size) wl wr)) (fun _ j _ => L.length - (intOf j).toNat)
          case atStart => exact ⟨0, Nat.zero_le _, rfl, Iv w.heap.size wo.heap.size, by rw [List.take_zero, List.map_nil, List.append_nil]; exact Hown2.out, fun b hb => ⟨.inl hb, by have := hb.2; omega⟩, Only.refl _ _⟩
          case round =>
            clear Hown2
            obtain ⟨j, hj, rfl, S, Hs, HS, Ho⟩ := hrel
            obtain ⟨wi, rfl⟩ : ∃ wi : World, wi = wr := ⟨_, rfl⟩
            have hsi := Ho.out.size
            obtain ⟨s1, s2, s3, rfl⟩ := Hs.out.shape
            by_cases hltj : j < L.length
            · obtain ⟨l, hl⟩ : ∃ l, L[j]? = some l := ⟨_, List.getElem?_eq_getElem hltj⟩
              obtain ⟨gL, capL, heL, -⟩ := HoL.out.inv_ne (by omega)
              simp only [Value.slice.injEq, true_and] at heL
              obtain ⟨rfl, hcc⟩ := heL
              subst hcc
              have hoLk : Own 25 (Own 3 IntV) (Iv wo.heap.size wl.heap.size) wi (.slice (some ⟨gL, 0, none⟩) L.length cL) L := (rOwn (rOwn rIntV)).same (fun b hb => Ho.out.block b hb.2 fun h => by have := h.2; have := hb.1; omega) HoL.out
              obtain ⟨-, -, -, -, T, uk, hcell, hr2, hT, -⟩ := hoLk.focus (rOwn rIntV) hl
              obtain ⟨y1, y2, y3, rfl⟩ := hr2.shape
              have hll : l.length = n := by
                have h := List.mem_of_getElem? hl
                rw [HL.out] at h
                exact (bitRows_mem.1 h).1
              have Hl := Lib.hid hl
              have HT := Lib.hid hT
              have h1 := own_one rIntV wi 3 (u := .int .i64 x) (x := (x : Int)) (T := fun _ => False) (lo := wi.heap.size) ⟨rfl, I64.small (by omega) (by omega)⟩ (fun _ h => h.elim) (Nat.le_refl _)
              have H1 := Lib.hid h1
              have Hbx := Lib.hid (Below.pureAlloc wi (.cells #[.int .i64 x] 3))
              have hzb : (wi.alloc (.cells #[.int .i64 (x : Int)] 3)).heap.size = wi.heap.size + 1 := by simp
              have Hzb := Lib.hid hzb
              have Hsrc := Lib.hid (Ints.keep hr2.ints Hbx.out)
              have hlen1 : ([(x : Int)] : List Int).length + l.length ≤ 1099511627776 := by simp; omega
              have hlenO : (rowUpTo n k x ++ (L.take j).map ((x : Int) :: ·)).length < 1099511627776 := by
                have := rowUpTo_len (n := n) (by omega) k x
                rw [List.length_append, List.length_map, List.length_take]; omega
              have HsK := Lib.hid (show ∀ W, Below wi.heap.size wi W → Own 25 (Own 3 IntV) S W (.slice s1 s2 s3) (rowUpTo n k x ++ (L.take j).map ((x : Int) :: ·)) from fun W hW => (rOwn (rOwn rIntV)).same (sameOn_below hW fun b hb => (HS.out b hb).2) Hs.out)
              clear hoLk hr2 hT hl hll h1 hzb
              go_wp2_with (first
                | (at_builtin; refine wpList_appI rfl _ _ 25 rfl 3 Try.underlying25 infoInt rfl (Iv wi.heap.size (wi.heap.size + 1)) rfl rfl (by exact H1.out) (by exact Hsrc.out) hlen1 ?_; intro v2 w2 hown2 honly2 _; obtain ⟨q1, q2, q3, rfl⟩ := hown2.shape; have hb2 := Lib.hid (Hbx.out.trans (honly2.below (by rw [Hzb.out]; omega) (fun b hb => (H1.out.ownBlock' b hb).1))); have Hel := Lib.hid ((rOwn rIntV).mono (S' := Iv wi.heap.size w2.heap.size) (fun b hb => hb.elim (fun h => ⟨h.1, by have h1 := h.2; have h2 := honly2.size; rw [Hzb.out] at h2; omega⟩) (fun h => ⟨by have h1 := h.1; rw [Hzb.out] at h1; omega, h.2⟩)) hown2); have hs2 := hb2.out.size; clear hown2 honly2)
                | (at_builtin; (refine wpList_app1g (w := w2.alloc (.cells #[.slice q1 q2 q3] 25)) (v := .slice s1 s2 s3) (u := .slice q1 q2 q3) (x := (x : Int) :: l) (gb := w2.heap.size) (c := 1) rfl _ _ 23 rfl (rOwn rIntV) 25 Try.underlying23 infoIntsR rfl (by decide) S (Iv wi.heap.size w2.heap.size) rfl rfl (by exact (Blk.new w2 #[.slice q1 q2 q3] 25).cell 0) (by exact HsK.out _ (hb2.out.trans_pure (Below.pureAlloc _ _) (Nat.le_refl _))) (by exact (rOwn rIntV).same (sameOn_below (Below.pureAlloc w2 _) fun b hb => hb.2) Hel.out) (fun b h1 h2 => by have := (HS.out b h1).2; have := h2.1; omega) (fun b h1 => by have := (HS.out b h1).2; simp; omega) (fun b h1 => by have := h1.2; simp; omega) hlenO ?_; intro v3 w3 o3 h3; obtain ⟨z1, z2, z3, rfl⟩ := o3.shape))
                | fail)
              have Ho3 := Lib.hid o3
              have h23 : wi.heap.size ≤ (w2.alloc (.cells #[.slice q1 q2 q3] 25)).heap.size := by simp; omega
              have HO := Lib.hid (show Only (Iv w.heap.size wo.heap.size) wl w3 from (Ho.out.trans' (Only.of_pure (hb2.out.trans_pure (Below.pureAlloc _ (.cells #[.slice q1 q2 q3] 25)) (Nat.le_refl _)) _)).trans' (h3.mono fun b hb _ => by
                have := (HS.out b (Hs.out.ownBlock' b hb)).1
                exact this))
              have Hst := Lib.hid (map_take_succ ((x : Int) :: ·) Hl.out)
              clear o3 h3
              go_wp2
              go_roundw
              case rel => exact ⟨j + 1, by omega, by go_num, fun b => (S b ∨ Iv wi.heap.size w2.heap.size b ∨ (w2.alloc (.cells #[.slice q1 q2 q3] 25)).heap.size ≤ b) ∧ b < w3.heap.size, by rw [Hst.out, ← List.append_assoc]; exact Ho3.out, fun b hb => ⟨hb.1.elim (fun h => (HS.out b h).1) (fun h => h.elim (fun h => .inr (by have := h.1; omega)) (fun h => .inr (by omega))), hb.2⟩, HO.out⟩
              case measure => simp [intOf]; omega
            · have Hfin := Lib.hid (show rowUpTo n k x ++ (L.take j).map ((x : Int) :: ·) = rowUpTo n k (x + 1) from by rw [rowUpTo_succ, Hpart.out, List.take_of_length_le (by omega)])
              have hbw : Below w.heap.size w wi := hbl.trans (Ho.out.below (by omega) fun b hb => hb.1)
              go_wp2
              go_roundw
              case rel => exact ⟨x + 1, by omega, by go_num, by rw [← Hfin.out]; exact (rOwn (rOwn rIntV)).mono (fun b hb => ⟨(HS.out b hb).1.elim (fun h => h.1) (fun h => by omega), (HS.out b hb).2⟩) Hs.out, hbw⟩
              case measure => simp [intOf]; omega
        · have hd2 : decide (k ≥ (x : Int)) = false := decide_eq_false hkx
          have hd3 : decide ((x : Int) ≤ k) = false := decide_eq_false hkx
          have Hpart := Lib.hid (show rowUpTo n k (x + 1) = rowUpTo n k x from by rw [rowUpTo_succ]; unfold rowPart; rw [if_neg hkx, List.append_nil])
          go_wp2
          go_roundw
          case rel => exact ⟨x + 1, by omega, by go_num, by rw [Hpart.out]; exact Hown.out, hbel⟩
          case measure => simp [intOf]; omega
      · have e : x = 2 := by omega
        subst e
        go_wp2
        go_ret
        exact ⟨_, rfl, by rw [← Hfin2.out]; exact Hown.out, hbel⟩
end Go.Proofs.Ytliejhmlcdjpcaa

/- Contracts: the reference's rows of an image, and what they leave of the columns. Contracts: what a row leaves of the columns. Contracts: all images of the reference: its recursion. Contracts: AllImages of the reference. -/
import Derived.Test.YtlmjpmdkifoekaaDoorX3
import Derived.Test.YtlmjpmdkifoekaaDoorMem
import Derived.Test.YtlmjpmdkifoekaaDoorC1
import Derived.Laws.EntriesVeiled
import Derived.Deep.DeepCutAuto
import Derived.Test.YtlmjpmdkifoekaaDoorE3
namespace Go.Proofs.YtlmjpmdkifoekaaDoor
open Go.RowKit

theorem own_one {α : Type} {R : RepT α} (hR : Rep R) (w : World) (E : TypeId) {u : Value} {x : α} {T : Bk} {lo : Nat} (hu : R T w u x) (hT : ∀ b, T b → lo ≤ b ∧ b < w.heap.size) (hlo : lo ≤ w.heap.size) :
    Own E R (Iv lo (w.heap.size + 1)) (w.alloc (.cells #[u] E)) (.slice (some ⟨w.heap.size, 0, none⟩) 1 1) [x] := by
  refine .inr ⟨w.heap.size, #[u], rfl, ⟨hlo, Nat.lt_succ_self _⟩, heap_alloc_new w _, by simp, by simp [maxLen], by simp, fun k b => T b ∧ k = 0, fun k b hb => ⟨⟨(hT b hb.1).1, Nat.lt_succ_of_lt (hT b hb.1).2⟩, by have := (hT b hb.1).2; omega⟩, fun j k b hj hk => by rw [hj.2, hk.2], fun k y hk => ?_⟩
  have hk0 : k = 0 := by
    have := (List.getElem?_eq_some_iff.1 hk).1
    simpa using this
  subst hk0
  simp at hk; subst hk
  exact ⟨u, rfl, hR.mono (fun b hb => ⟨hb, rfl⟩) (hR.same (fun b hb => Below.heap_alloc _ _ _ (hT b hb).2) hu)⟩
/-- the rows whose first cell is x -/
def rowPart (n : Nat) (k : Int) (x : Nat) : List (List Int) := if (x : Int) ≤ k then (bitRows n (k - x)).map ((x : Int) :: ·) else []
def rowUpTo (n : Nat) (k : Int) (x : Nat) : List (List Int) := (List.range x).flatMap (rowPart n k)
theorem rowUpTo_zero (n : Nat) (k : Int) : rowUpTo n k 0 = [] := by simp [rowUpTo]
theorem rowUpTo_succ (n : Nat) (k : Int) (x : Nat) : rowUpTo n k (x + 1) = rowUpTo n k x ++ rowPart n k x := by
  unfold rowUpTo
  rw [List.range_succ, List.flatMap_append]; simp
theorem rowUpTo_two (n : Nat) (k : Int) : rowUpTo n k 2 = bitRows (n + 1) k := by
  rw [rowUpTo_succ, rowUpTo_succ, rowUpTo_zero, bitRows]
  unfold rowPart
  simp
theorem bitRows_len : ∀ (n : Nat) (k : Int), (bitRows n k).length ≤ 2 ^ n
  | 0, k => by unfold bitRows; split <;> simp
  | n + 1, k => by
    unfold bitRows
    have h1 := bitRows_len n k
    have h2 := bitRows_len n (k - 1)
    rw [List.length_append, Nat.pow_succ]
    have a1 : (if 0 ≤ k then (bitRows n k).map (0 :: ·) else []).length ≤ 2 ^ n := by split <;> simp [h1]
    have a2 : (if 1 ≤ k then (bitRows n (k - 1)).map (1 :: ·) else []).length ≤ 2 ^ n := by split <;> simp [h2]
    omega
theorem bitRows_32 {n : Nat} (h : n ≤ 5) (k : Int) : (bitRows n k).length ≤ 32 := by
  have h1 := bitRows_len n k
  have h2 := Nat.pow_le_pow_right (n := 2) (by decide) h
  omega
theorem rowUpTo_len {n : Nat} (h : n ≤ 5) (k : Int) (x : Nat) : (rowUpTo n k x).length ≤ x * 32 := by
  induction x with
  | zero => simp [rowUpTo]
  | succ x ih =>
    rw [rowUpTo_succ, List.length_append]
    have : (rowPart n k x).length ≤ 32 := by
      unfold rowPart
      split
      · rw [List.length_map]; exact bitRows_32 h _
      · simp
    omega
theorem map_take_succ {α β : Type} (f : α → β) {L : List α} {j : Nat} {x : α} (h : L[j]? = some x) : (L.take (j + 1)).map f = (L.take j).map f ++ [f x] := by
  rw [List.take_add_one, h, List.map_append]; rfl
theorem infoIntsR : (Tryd.prog.info? 24).map (fun i => (i.zero, i.size, i.bytes)) = some (some (.slice none 0 0), 1, 24) := by kernel_rfl
set_option maxRecDepth 100000 in
set_option maxHeartbeats 4000000 in
theorem l05Rows_c : ∀ (n : Nat) (k : Int) (w : World), n ≤ 5 → -100 ≤ k → k ≤ 100 → Calls Tryd.prog 146 #[.int .i64 n, .int .i64 k] w (New 24 (Own 3 IntV) w (bitRows n k)) := by
  intro n
  induction n with
  | zero =>
    intro k w _ _ _
    by_cases hk : k = 0
    · subst hk
      have Hb := Lib.hid (show bitRows 0 0 = [[]] from rfl)
      have h1 := own_lit0 w 3 w.heap.size rIntV
      have hz : (w.alloc (.cells #[] 3)).heap.size = w.heap.size + 1 := by simp
      have h2 := own_one (rOwn (E := 3) rIntV) (w.alloc (.cells #[] 3)) 24 (lo := w.heap.size) h1 (fun b hb => ⟨hb.1, hb.2⟩) (by rw [hz]; omega)
      rw [hz] at h2
      have H2 := Lib.hid h2
      clear h1 hz h2
      go_enter Tryd.func146, Tryd.ntmps146
      go_wp2
      go_ret
      refine ⟨_, rfl, by rw [Hb.out]; exact (rOwn (rOwn rIntV)).mono (S := Iv w.heap.size (w.heap.size + 1 + 1)) (fun b hb => ⟨hb.1, by have := hb.2; simp at this ⊢; omega⟩) H2.out, ?_⟩
      exact (Below.pureAlloc w _).trans_pure (Below.pureAlloc _ _) (Nat.le_refl _)
    · have Hb := Lib.hid (show bitRows 0 k = [] from by unfold bitRows; rw [if_neg hk])
      have hd : (k == 0) = false := by rw [beq_eq_false_iff_ne]; exact hk
      clear hk
      go_enter Tryd.func146, Tryd.ntmps146
      go_wp2
      go_ret
      exact ⟨_, rfl, by rw [Hb.out]; exact Own.nil _ _ _ _, Below.refl _ _⟩
  | succ n ih =>
    intro k w hn hk1 hk2
    have hn : n ≤ 4 := by omega
    have IH := Lib.hid ih
    have Hfin2 := Lib.hid (rowUpTo_two n k)
    obtain ⟨N, hN⟩ : ∃ N : Nat, N = n + 1 := ⟨_, rfl⟩
    rw [← hN] at Hfin2 ⊢
    have hd0 : ((N : Int) == 0) = false := by rw [beq_eq_false_iff_ne]; omega
    have hn1 : (N : Int) - 1 = (n : Int) := by omega
    clear ih hN
    go_enter Tryd.func146, Tryd.ntmps146
    go_wp2
    go_loopw [5, 6] (fun v i wr => ∃ x : Nat, x ≤ 2 ∧ i = .int .i64 x ∧ Hid (Own 24 (Own 3 IntV) (Iv w.heap.size wr.heap.size) wr v (rowUpTo n k x)) ∧ Below w.heap.size w wr) (fun _ i _ => 2 - (intOf i).toNat)
    case atStart => exact ⟨0, by omega, rfl, by rw [rowUpTo_zero]; exact own_lit0 _ _ _ (rOwn rIntV), Below.pureAlloc _ _⟩
    case round =>
      obtain ⟨x, hx, rfl, Hown, hbel⟩ := hrel
      obtain ⟨wo, rfl⟩ : ∃ wo : World, wo = wr := ⟨_, rfl⟩
      have hBs := hbel.size
      by_cases hlt : x < 2
      · have hd1 : decide ((x : Int) < 2) = true := by rw [decide_eq_true_eq]; omega
        by_cases hkx : (x : Int) ≤ k
        · have hd2 : decide (k ≥ (x : Int)) = true := decide_eq_true hkx
          have hd3 : decide ((x : Int) ≤ k) = true := decide_eq_true hkx
          obtain ⟨L, hL⟩ : ∃ L, L = bitRows n (k - x) := ⟨_, rfl⟩
          have HL := Lib.hid hL
          have hLlen : L.length ≤ 32 := by rw [hL]; exact bitRows_32 (by omega) _
          have Hpart := Lib.hid (show rowPart n k x = L.map ((x : Int) :: ·) from by unfold rowPart; rw [if_pos hkx, hL])
          clear hL
          go_wp2_with (fail)
          refine (IH.out (k - x) _ (by omega) (by omega) (by omega)).mono ?_
          rintro e wl ⟨vl, rfl, ol, bl⟩
          rw [← HL.out] at ol
          obtain ⟨aL, cL, rfl, -⟩ := id ol.grid
          have hsl := bl.size
          have HoL := Lib.hid ol
          have Hbl := Lib.hid bl
          have hleL : L.length ≤ 9223372036854775807 := by omega
          have Hown2 := Lib.hid (Own.keep (rOwn rIntV) Hown.out bl (Nat.le_refl _))
          have hbl := hbel.trans_pure bl (Nat.le_refl _)
          clear ol Hown
          go_wp2
          go_loopw [5, 30] (fun v j wr => ∃ j' : Nat, j' ≤ L.length ∧ j = .int .i64 j' ∧ ∃ S, Hid (Own 24 (Own 3 IntV) S wr v (rowUpTo n k x ++ (L.take j').map ((x : Int) :: ·))) ∧ Hid (∀ b, S b → (Iv w.heap.size wo.heap.size b ∨ wl.heap.size ≤ b) ∧ b < wr.heap.size) ∧ Hid (Only (Iv w.heap.size wo.heap.size) wl wr)) (fun _ j _ => L.length - (intOf j).toNat)
          case atStart => exact ⟨0, Nat.zero_le _, rfl, Iv w.heap.size wo.heap.size, by rw [List.take_zero, List.map_nil, List.append_nil]; exact Hown2.out, fun b hb => ⟨.inl hb, by have := hb.2; omega⟩, Only.refl _ _⟩
          case round =>
            clear Hown2
            obtain ⟨j, hj, rfl, S, Hs, HS, Ho⟩ := hrel
            obtain ⟨wi, rfl⟩ : ∃ wi : World, wi = wr := ⟨_, rfl⟩
            have hsi := Ho.out.size
            obtain ⟨s1, s2, s3, rfl⟩ := Hs.out.shape
            by_cases hltj : j < L.length
            · obtain ⟨l, hl⟩ : ∃ l, L[j]? = some l := ⟨_, List.getElem?_eq_getElem hltj⟩
              obtain ⟨gL, capL, heL, -⟩ := HoL.out.inv_ne (by omega)
              simp only [Value.slice.injEq, true_and] at heL
              obtain ⟨rfl, hcc⟩ := heL
              subst hcc
              have hoLk : Own 24 (Own 3 IntV) (Iv wo.heap.size wl.heap.size) wi (.slice (some ⟨gL, 0, none⟩) L.length cL) L := (rOwn (rOwn rIntV)).same (fun b hb => Ho.out.block b hb.2 fun h => by have := h.2; have := hb.1; omega) HoL.out
              obtain ⟨-, -, -, -, T, uk, hcell, hr2, hT, -⟩ := hoLk.focus (rOwn rIntV) hl
              obtain ⟨y1, y2, y3, rfl⟩ := hr2.shape
              have hll : l.length = n := by
                have h := List.mem_of_getElem? hl
                rw [HL.out] at h
                exact (bitRows_mem.1 h).1
              have Hl := Lib.hid hl
              have HT := Lib.hid hT
              have h1 := own_one rIntV wi 3 (u := .int .i64 x) (x := (x : Int)) (T := fun _ => False) (lo := wi.heap.size) ⟨rfl, I64.small (by omega) (by omega)⟩ (fun _ h => h.elim) (Nat.le_refl _)
              have H1 := Lib.hid h1
              have Hbx := Lib.hid (Below.pureAlloc wi (.cells #[.int .i64 x] 3))
              have hzb : (wi.alloc (.cells #[.int .i64 (x : Int)] 3)).heap.size = wi.heap.size + 1 := by simp
              have Hzb := Lib.hid hzb
              have Hsrc := Lib.hid (Ints.keep hr2.ints Hbx.out)
              have hlen1 : ([(x : Int)] : List Int).length + l.length ≤ 1099511627776 := by simp; omega
              have hlenO : (rowUpTo n k x ++ (L.take j).map ((x : Int) :: ·)).length < 1099511627776 := by
                have := rowUpTo_len (n := n) (by omega) k x
                rw [List.length_append, List.length_map, List.length_take]; omega
              have HsK := Lib.hid (show ∀ W, Below wi.heap.size wi W → Own 24 (Own 3 IntV) S W (.slice s1 s2 s3) (rowUpTo n k x ++ (L.take j).map ((x : Int) :: ·)) from fun W hW => (rOwn (rOwn rIntV)).same (sameOn_below hW fun b hb => (HS.out b hb).2) Hs.out)
              clear hoLk hr2 hT hl hll h1 hzb
              go_wp2_with (first
                | (at_builtin; refine wpList_appI rfl _ _ 24 rfl 3 Tryd.underlying24 infoInt rfl (Iv wi.heap.size (wi.heap.size + 1)) rfl rfl (by exact H1.out) (by exact Hsrc.out) hlen1 ?_; intro v2 w2 hown2 honly2 _; obtain ⟨q1, q2, q3, rfl⟩ := hown2.shape; have hb2 := Lib.hid (Hbx.out.trans (honly2.below (by rw [Hzb.out]; omega) (fun b hb => (H1.out.ownBlock' b hb).1))); have Hel := Lib.hid ((rOwn rIntV).mono (S' := Iv wi.heap.size w2.heap.size) (fun b hb => hb.elim (fun h => ⟨h.1, by have h1 := h.2; have h2 := honly2.size; rw [Hzb.out] at h2; omega⟩) (fun h => ⟨by have h1 := h.1; rw [Hzb.out] at h1; omega, h.2⟩)) hown2); have hs2 := hb2.out.size; clear hown2 honly2)
                | (at_builtin; (refine wpList_app1g (w := w2.alloc (.cells #[.slice q1 q2 q3] 24)) (v := .slice s1 s2 s3) (u := .slice q1 q2 q3) (x := (x : Int) :: l) (gb := w2.heap.size) (c := 1) rfl _ _ 23 rfl (rOwn rIntV) 24 Tryd.underlying23 infoIntsR rfl (by decide) S (Iv wi.heap.size w2.heap.size) rfl rfl (by exact (Blk.new w2 #[.slice q1 q2 q3] 24).cell 0) (by exact HsK.out _ (hb2.out.trans_pure (Below.pureAlloc _ _) (Nat.le_refl _))) (by exact (rOwn rIntV).same (sameOn_below (Below.pureAlloc w2 _) fun b hb => hb.2) Hel.out) (fun b h1 h2 => by have := (HS.out b h1).2; have := h2.1; omega) (fun b h1 => by have := (HS.out b h1).2; simp; omega) (fun b h1 => by have := h1.2; simp; omega) hlenO ?_; intro v3 w3 o3 h3; obtain ⟨z1, z2, z3, rfl⟩ := o3.shape))
                | fail)
              have Ho3 := Lib.hid o3
              have h23 : wi.heap.size ≤ (w2.alloc (.cells #[.slice q1 q2 q3] 24)).heap.size := by simp; omega
              have HO := Lib.hid (show Only (Iv w.heap.size wo.heap.size) wl w3 from (Ho.out.trans' (Only.of_pure (hb2.out.trans_pure (Below.pureAlloc _ (.cells #[.slice q1 q2 q3] 24)) (Nat.le_refl _)) _)).trans' (h3.mono fun b hb _ => by
                have := (HS.out b (Hs.out.ownBlock' b hb)).1
                exact this))
              have Hst := Lib.hid (map_take_succ ((x : Int) :: ·) Hl.out)
              clear o3 h3
              go_wp2
              go_roundw
              case rel => exact ⟨j + 1, by omega, by go_num, fun b => (S b ∨ Iv wi.heap.size w2.heap.size b ∨ (w2.alloc (.cells #[.slice q1 q2 q3] 24)).heap.size ≤ b) ∧ b < w3.heap.size, by rw [Hst.out, ← List.append_assoc]; exact Ho3.out, fun b hb => ⟨hb.1.elim (fun h => (HS.out b h).1) (fun h => h.elim (fun h => .inr (by have := h.1; omega)) (fun h => .inr (by omega))), hb.2⟩, HO.out⟩
              case measure => simp [intOf]; omega
            · have Hfin := Lib.hid (show rowUpTo n k x ++ (L.take j).map ((x : Int) :: ·) = rowUpTo n k (x + 1) from by rw [rowUpTo_succ, Hpart.out, List.take_of_length_le (by omega)])
              have hbw : Below w.heap.size w wi := hbl.trans (Ho.out.below (by omega) fun b hb => hb.1)
              go_wp2
              go_roundw
              case rel => exact ⟨x + 1, by omega, by go_num, by rw [← Hfin.out]; exact (rOwn (rOwn rIntV)).mono (fun b hb => ⟨(HS.out b hb).1.elim (fun h => h.1) (fun h => by omega), (HS.out b hb).2⟩) Hs.out, hbw⟩
              case measure => simp [intOf]; omega
        · have hd2 : decide (k ≥ (x : Int)) = false := decide_eq_false hkx
          have hd3 : decide ((x : Int) ≤ k) = false := decide_eq_false hkx
          have Hpart := Lib.hid (show rowUpTo n k (x + 1) = rowUpTo n k x from by rw [rowUpTo_succ]; unfold rowPart; rw [if_neg hkx, List.append_nil])
          go_wp2
          go_roundw
          case rel => exact ⟨x + 1, by omega, by go_num, by rw [Hpart.out]; exact Hown.out, hbel⟩
          case measure => simp [intOf]; omega
      · have e : x = 2 := by omega
        subst e
        go_wp2
        go_ret
        exact ⟨_, rfl, by rw [← Hfin2.out]; exact Hown.out, hbel⟩
end Go.Proofs.YtlmjpmdkifoekaaDoor

namespace Go.Proofs.YtlmjpmdkifoekaaDoor
open Go.RowKit

theorem leftOver_next {cols row : List Int} {k : Nat} {c x : Int} (hc : cols[k]? = some c) (hx : row[k]? = some x) : (leftOver cols row)[k]? = some (c - x) := by
  unfold leftOver
  rw [List.getElem?_zipWith, hc, hx]
theorem rowFits_no {cols row : List Int} (hl : row.length = cols.length) {k : Nat} {c x : Int} (hc : cols[k]? = some c) (hx : row[k]? = some x) (h : c < x) : rowFits cols row = false := by
  rw [Bool.eq_false_iff]
  intro hf
  have hk := (List.getElem?_eq_some_iff.1 hc).1
  have := (rowFits_iff hl).1 hf k hk
  rw [gD_some (leftOver_next hc hx)] at this
  omega
theorem rowFits_yes {cols row : List Int} (hl : row.length = cols.length) (h : ∀ j, j < cols.length → 0 ≤ (leftOver cols row).getD j 0) : rowFits cols row = true := (rowFits_iff hl).2 h
def leftRes (cols row : List Int) : List Int := if rowFits cols row then leftOver cols row else []
set_option maxRecDepth 100000 in
set_option maxHeartbeats 2000000 in
theorem l05Left_c (v v2 : Value) (cols row : List Int) (w : World) (hv : Ints w v cols) (hv2 : Ints w v2 row) (hl : row.length = cols.length) (h5 : cols.length ≤ 5) (hc5 : ∀ x ∈ cols, 0 ≤ x ∧ x ≤ 5) (hr1 : ∀ x ∈ row, 0 ≤ x ∧ x ≤ 1) :
    Calls Tryd.prog 147 #[v, v2] w fun e w' => ∃ v', e = .returned (.tuple #[v', .bool (rowFits cols row)]) ∧ Own 3 IntV (Iv w.heap.size w'.heap.size) w' v' (leftRes cols row) ∧ Below w.heap.size w w' := by
  obtain ⟨a, cap, rfl, -, hle, -, hc⟩ := hv
  obtain ⟨a2, cap2, rfl, -, hle2, -, hc2⟩ := hv2
  have Hl := Lib.hid hl
  have Hc5 := Lib.hid hc5
  have Hr1 := Lib.hid hr1
  clear hl hc5 hr1
  go_enter Tryd.func147, Tryd.ntmps147
  go_wp2
  go_loopw [6, 12] (fun v i wr => ∃ k : Nat, k ≤ cols.length ∧ i = .int .i64 k ∧ Hid (Own 3 IntV (Iv w.heap.size wr.heap.size) wr v ((leftOver cols row).take k)) ∧ Hid (∀ j, j < k → 0 ≤ (leftOver cols row).getD j 0) ∧ Below w.heap.size w wr) (fun _ i _ => cols.length - (intOf i).toNat)
  case atStart => exact ⟨0, Nat.zero_le _, rfl, by rw [List.take_zero]; exact own_lit0 _ _ _ rIntV, (by intro j hj; omega), Below.pureAlloc _ _⟩
  case round =>
    obtain ⟨k, hk, rfl, Hown, Hpos, hbel⟩ := hrel
    have hBs := hbel.size
    by_cases hlt : k < cols.length
    · obtain ⟨b, off, rfl, hb, hcc⟩ := hc (by omega)
      obtain ⟨b2, off2, rfl, hb2, hcc2⟩ := hc2 (by rw [Hl.out]; omega)
      obtain ⟨c, hcx⟩ : ∃ c, cols[k]? = some c := ⟨_, List.getElem?_eq_getElem hlt⟩
      obtain ⟨x, hx⟩ : ∃ x, row[k]? = some x := ⟨_, List.getElem?_eq_getElem (by rw [Hl.out]; exact hlt)⟩
      obtain ⟨u, hck, rfl, -⟩ := hcc k c hcx
      obtain ⟨u2, hck2, rfl, -⟩ := hcc2 k x hx
      rw [← hbel.cell (p := ⟨b, off + k, none⟩) hb] at hck
      rw [← hbel.cell (p := ⟨b2, off2 + k, none⟩) hb2] at hck2
      have hrl : (k : Int) < (row.length : Int) := by have := Hl.out; omega
      have hrl2 : k < row.length := by have := Hl.out; omega
      obtain ⟨hc0, hc9⟩ := Hc5.out c (List.mem_of_getElem? hcx)
      obtain ⟨hx0, hx9⟩ := Hr1.out x (List.mem_of_getElem? hx)
      by_cases hcl : c < x
      · have hd : decide (c < x) = true := decide_eq_true hcl
        have Hf := Lib.hid (rowFits_no Hl.out hcx hx hcl)
        have He := Lib.hid (show leftRes cols row = [] from by unfold leftRes; rw [Hf.out]; rfl)
        clear hcx hx hcc hcc2 hc hc2 hcl
        go_wp2
        go_ret2
        exact ⟨_, by rw [Hf.out]; rfl, by rw [He.out]; exact Own.nil _ _ _ _, hbel⟩
      · have hd : decide (c < x) = false := decide_eq_false hcl
        have Hn := Lib.hid (leftOver_next hcx hx)
        have hkl : ((leftOver cols row).take k).length < 1099511627776 := by rw [List.length_take]; omega
        have Hst := Lib.hid (show (leftOver cols row).take (k + 1) = (leftOver cols row).take k ++ [c - x] from by rw [List.take_add_one, Hn.out]; rfl)
        have Hpos2 := Lib.hid (show ∀ j, j < k + 1 → 0 ≤ (leftOver cols row).getD j 0 from by
          intro j hj
          by_cases e : j = k
          · rw [e, gD_some Hn.out]; omega
          · exact Hpos.out j (by omega))
        have hI : I64 (c - x) := I64.small (by omega) (by omega)
        clear hcx hx hcc hcc2 hc hc2 hcl Hpos
        go_wp2_with (first | (at_builtin; (refine wpList_appR rfl _ _ 24 rfl rIntV 3 Tryd.underlying24 infoInt rfl (by decide) w.heap.size wr.heap.size hBs (Nat.le_refl _) rfl rfl (by exact Hown.out) (by exact ⟨rfl, hI⟩) hkl ?_); intro v2 w2 hown2 hbel2 _) | fail)
        have hb3 := hbel.trans hbel2
        have Hown2 := Lib.hid hown2
        clear hown2 Hown
        go_wp2
        go_roundw
        case rel => exact ⟨k + 1, by omega, by go_num, by rw [Hst.out]; exact Hown2.out, Hpos2, hb3⟩
        case measure => simp [intOf]; omega
    · have Hf := Lib.hid (rowFits_yes Hl.out fun j hj => Hpos.out j (by omega))
      have He := Lib.hid (show (leftOver cols row).take k = leftRes cols row from by unfold leftRes; rw [Hf.out, if_pos rfl, List.take_of_length_le (by rw [leftOver_len Hl.out]; omega)])
      go_wp2
      go_ret2
      exact ⟨_, by rw [Hf.out]; rfl, by rw [← He.out]; exact Hown.out, hbel⟩
end Go.Proofs.YtlmjpmdkifoekaaDoor

namespace Go.Proofs.YtlmjpmdkifoekaaDoor
open Go.RowKit

theorem Sl.tail {α : Type} {R : RepT α} {S : Bk} {w : World} {b off n c : Nat} {x : α} {xs : List α} (h : Sl R S w (.slice (some ⟨b, off, none⟩) n c) (x :: xs)) : Sl R S w (.slice (if c = 1 then some ⟨b, off, none⟩ else some ⟨b, off + 1, none⟩) xs.length (c - 1)) xs := by
  obtain ⟨a', cap', he, h1, h2, h3, h4⟩ := h
  simp only [Value.slice.injEq] at he
  obtain ⟨rfl, hn, rfl⟩ := he
  rw [List.length_cons] at h1 h2
  refine ⟨_, _, rfl, by omega, by omega, (fun h => by split at h <;> cases h), fun h0 => ?_⟩
  rw [if_neg (by omega)]
  obtain ⟨b', off', he, hb, hc⟩ := h4 (by rw [List.length_cons]; omega)
  simp only [Option.some.injEq, Addr.mk.injEq, and_true] at he
  obtain ⟨rfl, rfl⟩ := he
  refine ⟨b, off + 1, rfl, hb, fun k y hk => ?_⟩
  obtain ⟨u, hu, hr⟩ := hc (k + 1) y (by simpa using hk)
  exact ⟨u, by rw [show off + 1 + k = off + (k + 1) by omega]; exact hu, hr⟩
def rowsG (rows cols row : List Int) : List (List (List Int)) := if rowFits cols row && goesOn rows (leftOver cols row) then (rowsAll rows (leftOver cols row)).map (row :: ·) else []
def rowsTo (rows cols : List Int) (L : List (List Int)) (k : Nat) : List (List (List Int)) := (L.take k).flatMap (rowsG rows cols)
theorem rowsTo_zero (rows cols : List Int) (L : List (List Int)) : rowsTo rows cols L 0 = [] := by simp [rowsTo]
theorem rowsTo_succ {rows cols : List Int} {L : List (List Int)} {k : Nat} {l : List Int} (h : L[k]? = some l) : rowsTo rows cols L (k + 1) = rowsTo rows cols L k ++ rowsG rows cols l := by
  unfold rowsTo
  rw [List.take_add_one, h, List.flatMap_append]; simp
theorem rowsTo_all {r : Int} {rows cols : List Int} {L : List (List Int)} {k : Nat} (hL : L = bitRows cols.length r) (hk : L.length ≤ k) : rowsTo rows cols L k = rowsAll (r :: rows) cols := by
  unfold rowsTo
  rw [List.take_of_length_le hk, hL]; rfl
theorem flatMap_take_len {α β : Type} (g : α → List β) : ∀ (L : List α) (k : Nat), ((L.take k).flatMap g).length ≤ (L.flatMap g).length
  | [], k => by simp
  | a :: L, 0 => by simp
  | a :: L, k + 1 => by
    rw [List.take_succ_cons, List.flatMap_cons, List.flatMap_cons, List.length_append, List.length_append]
    have := flatMap_take_len g L k
    omega
theorem rowsTo_len {r : Int} {rows cols : List Int} {L : List (List Int)} {k : Nat} (hL : L = bitRows cols.length r) : (rowsTo rows cols L k).length ≤ (rowsAll (r :: rows) cols).length := by
  have := flatMap_take_len (rowsG rows cols) L k
  rw [hL] at this
  rw [hL]; exact this
theorem rowsG_no {rows cols row : List Int} (h : (rowFits cols row && goesOn rows (leftOver cols row)) = false) : rowsG rows cols row = [] := by unfold rowsG; rw [h]; rfl
theorem rowsG_yes {rows cols row : List Int} (h : (rowFits cols row && goesOn rows (leftOver cols row)) = true) (done : List (List Int)) : (rowsG rows cols row).map (done ++ ·) = (rowsAll rows (leftOver cols row)).map ((done ++ [row]) ++ ·) := by
  unfold rowsG
  rw [h, if_pos rfl, List.map_map]
  exact List.map_congr_left fun m _ => by simp
theorem rowsG_len {rows cols row : List Int} (h : (rowFits cols row && goesOn rows (leftOver cols row)) = true) : (rowsG rows cols row).length = (rowsAll rows (leftOver cols row)).length := by
  unfold rowsG
  rw [h, if_pos rfl, List.length_map]
theorem leftOver_bd {cols row : List Int} (hl : row.length = cols.length) (hc5 : ∀ x ∈ cols, 0 ≤ x ∧ x ≤ 5) (hr1 : ∀ x ∈ row, 0 ≤ x ∧ x ≤ 1) (hf : rowFits cols row = true) : ∀ x ∈ leftOver cols row, 0 ≤ x ∧ x ≤ 5 := by
  intro x hx
  obtain ⟨j, hj, rfl⟩ := List.getElem_of_mem hx
  have hj' : j < cols.length := by rw [← leftOver_len hl]; exact hj
  have h1 := (rowFits_iff hl).1 hf j hj'
  have h2 := leftOver_at hl hj'
  rw [gD_some (List.getElem?_eq_getElem hj)] at h1 h2
  have h3 := hc5 cols[j] (List.getElem_mem hj')
  have h4 := hr1 row[j] (List.getElem_mem (by omega))
  rw [gD_some (List.getElem?_eq_getElem hj'), gD_some (List.getElem?_eq_getElem (by omega))] at h2
  omega
theorem small_5 {xs : List Int} (h : ∀ x ∈ xs, 0 ≤ x ∧ x ≤ 5) (hl : xs.length ≤ 5) : Small xs := ⟨by omega, fun x hx => by have := h x hx; omega⟩
theorem infoGridsU : (Tryd.prog.info? 23).map (fun i => (i.zero, i.size, i.bytes)) = some (some (.slice none 0 0), 1, 24) := by kernel_rfl
def APost (S : Bk) (w : World) (out : List (List (List Int))) (e : Ending) (w' : World) : Prop :=
  ∃ v' S', e = .returned v' ∧ Own 23 (Own 24 (Own 3 IntV)) S' w' v' out ∧ (∀ b, S' b → (S b ∨ w.heap.size ≤ b) ∧ b < w'.heap.size) ∧ Only S w w'
set_option maxRecDepth 100000 in
set_option maxHeartbeats 8000000 in
theorem l05All_c : ∀ (xs ys : List Int) (vo vd vr vc : Value) (done : List (List Int)) (S : Bk) (out : List (List (List Int))) (w : World), xs.length ≤ 5 → 1 ≤ ys.length → ys.length ≤ 5 → (∀ x ∈ xs, 0 ≤ x ∧ x ≤ 5) → (∀ y ∈ ys, 0 ≤ y ∧ y ≤ 5) →
    (∀ b, S b → b < w.heap.size) → Own 23 (Own 24 (Own 3 IntV)) S w vo out → Sl (Sl IntV) (fun b => b < w.heap.size ∧ ¬ S b) w vd done → Sl IntV (fun b => b < w.heap.size ∧ ¬ S b) w vr xs → Sl IntV (fun b => b < w.heap.size ∧ ¬ S b) w vc ys →
    done.length + xs.length ≤ 5 → (∀ row ∈ done, row.length ≤ 5) → out.length + (rowsAll xs ys).length ≤ 1099511627775 →
    Calls Tryd.prog 134 #[vo, vd, vr, vc] w (APost S w (out ++ (rowsAll xs ys).map (done ++ ·))) := by
  intro xs
  induction xs with
  | nil =>
    intro ys vo vd vr vc done S out w hx5 hy1 hy5 hxb hyb hS ho hd hr hc hdl hdr hout
    have Hd := Lib.hid hd
    obtain ⟨ad, cd, rfl, -⟩ := id hd
    obtain ⟨ar, cr, rfl, -⟩ := hr
    obtain ⟨ac, cc, rfl, -⟩ := hc
    have HS := Lib.hid hS
    have Hoo := Lib.hid ho
    have Hout := Lib.hid hout
    have hml : done.length ≤ 1048576 := by omega
    have HR := Lib.hid (show ∀ p ∈ done, p.length ≤ 1048576 from fun p hp => by have := hdr p hp; omega)
    have HG2 := Lib.hid (show Grid w _ done from (rSl (rSl rIntV)).mono (fun b hb => hb.1) hd)
    have hlenO : out.length < 1099511627776 := Nat.lt_of_le_of_lt (Nat.le_trans (Nat.le_add_right _ _) Hout.out) (by decide)
    have Hres := Lib.hid (show (rowsAll [] ys).map (done ++ ·) = [done] from by simp [rowsAll])
    obtain ⟨o1, o2, o3, rfl⟩ := ho.shape
    clear hd hS ho hout hdr hxb hyb
    go_enter Tryd.func134, Tryd.ntmps134
    go_wp2_with (fail)
    refine (l02Copy_c _ done _ (by exact HG2.out) hml HR.out).mono ?_
    rintro e w4 ⟨v4, rfl, o4, b4⟩
    obtain ⟨r1, r2, r3, rfl⟩ := o4.shape
    have hs4 := b4.size
    have Hb4 := Lib.hid b4
    have Ho4 := Lib.hid o4
    have Hbx := Lib.hid (Below.pureAlloc w4 (.cells #[.slice r1 r2 r3] 23))
    have Hk := Lib.hid (Blk.new w4 #[.slice r1 r2 r3] 23)
    have Hoo5 := Lib.hid ((rOwn (rOwn (rOwn rIntV))).same (sameOn_below (Hb4.out.trans_pure Hbx.out (Nat.le_refl _)) fun b hb => HS.out b hb) Hoo.out)
    have Hu5 := Lib.hid ((rOwn (rOwn rIntV)).same (sameOn_below Hbx.out fun b hb => hb.2) Ho4.out)
    have hz5 : (w4.alloc (.cells #[.slice r1 r2 r3] 23)).heap.size = w4.heap.size + 1 := by simp
    have Hz5 := Lib.hid hz5
    clear o4 b4 hz5
    go_wp2_with (first | (at_builtin; refine wpList_app1g rfl _ _ 45 rfl (rOwn (rOwn rIntV)) 23 Tryd.underlying45 infoGridsU rfl (by decide) S (Iv w.heap.size w4.heap.size) rfl rfl (by exact Hk.out.cell 0) (by exact Hoo5.out) (by exact Hu5.out) (fun b h1 h2 => by have := HS.out b h1; have := h2.1; omega) (fun b h1 => by have := HS.out b h1; have := Hz5.out; omega) (fun b h1 => by have := h1.2; have := Hz5.out; omega) hlenO ?_; intro v6 w6 o6 h6; obtain ⟨x1, x2, x3, rfl⟩ := o6.shape) | fail)
    have Ho6 := Lib.hid o6
    have H6 := Lib.hid h6
    clear o6 h6
    go_wp2
    go_ret
    refine ⟨_, _, rfl, by rw [Hres.out]; exact Ho6.out, fun b hb => ?_, ?_⟩
    · refine ⟨?_, hb.2⟩
      rcases hb.1 with h | h | h
      · exact .inl h
      · exact .inr h.1
      · exact .inr (by have := Hz5.out; omega)
    · have h1 : Only S w (w4.alloc (.cells #[.slice r1 r2 r3] 23)) := Only.of_pure (Hb4.out.trans_pure Hbx.out (Nat.le_refl _)) S
      exact h1.trans' (H6.out.mono fun b hb _ => .inl (Hoo5.out.ownBlock' b hb))
  | cons r xs ih =>
    intro ys vo vd vr vc done S out w hx5 hy1 hy5 hxb hyb hS ho hd hr hc hdl hdr hout
    have IH := Lib.hid ih
    have Hd := Lib.hid hd
    have Hr := Lib.hid hr
    have Hc := Lib.hid hc
    obtain ⟨ad, cd, rfl, -⟩ := id hd
    obtain ⟨br, offr, cr, rfl, hbr0, hcr⟩ := hr.inv_ne (by simp)
    obtain ⟨ac, cc, rfl, -⟩ := id hc
    obtain ⟨u, hck, hu⟩ := Sl.at hr (k := 0) (x := r) rfl
    obtain ⟨rfl, -⟩ := hu
    rw [Nat.add_zero] at hck
    have hrb := hxb r (by simp)
    have Hxb := Lib.hid (fun x (hx : x ∈ xs) => hxb x (List.mem_cons_of_mem _ hx))
    have Hyb := Lib.hid hyb
    have HS := Lib.hid hS
    have Hoo := Lib.hid ho
    have Hout := Lib.hid hout
    have Hdr := Lib.hid hdr
    have hx4 : xs.length ≤ 4 := by simpa using hx5
    have hrl : (r :: xs).length = xs.length + 1 := rfl
    rw [hrl] at hcr hdl ⊢
    obtain ⟨L, hL⟩ : ∃ L, L = bitRows ys.length r := ⟨_, rfl⟩
    have HL := Lib.hid hL
    have hLlen : L.length ≤ 32 := by rw [hL]; exact bitRows_32 hy5 _
    have hne : (((xs.length + 1 : Nat) : Int) == 0) = false := by rw [beq_eq_false_iff_ne]; omega
    obtain ⟨o1, o2, o3, rfl⟩ := ho.shape
    obtain ⟨nx, hnx⟩ : ∃ nx : Nat, nx = xs.length + 1 := ⟨_, rfl⟩
    rw [← hnx] at hne hcr ⊢
    have Hnx := Lib.hid hnx
    have hnx0 : 0 < nx := by omega
    clear ih hd hr hc hxb hyb hS ho hout hdr hL hrl hx5 hnx
    go_enter Tryd.func134, Tryd.ntmps134
    go_wp2_with (fail)
    refine (l05Rows_c ys.length r _ hy5 (by omega) (by omega)).mono ?_
    rintro e wl ⟨vl, rfl, ol, bl⟩
    rw [← HL.out] at ol
    obtain ⟨aL, cL, rfl, -⟩ := id ol.grid
    have hsl := bl.size
    have HoL := Lib.hid ol
    have Hbl := Lib.hid bl
    have hleL : L.length ≤ 9223372036854775807 := by omega
    clear ol
    go_wp2
    go_loopw [0, 28] (fun v i wr => ∃ k : Nat, k ≤ L.length ∧ i = .int .i64 k ∧ ∃ S', Hid (Own 23 (Own 24 (Own 3 IntV)) S' wr v (out ++ (rowsTo xs ys L k).map (done ++ ·))) ∧ Hid (∀ b, S' b → (S b ∨ wl.heap.size ≤ b) ∧ b < wr.heap.size) ∧ Hid (Only S wl wr)) (fun _ i _ => L.length - (intOf i).toNat)
    case atStart => exact ⟨0, Nat.zero_le _, rfl, S, by rw [rowsTo_zero, List.map_nil, List.append_nil]; exact (rOwn (rOwn (rOwn rIntV))).same (sameOn_below Hbl.out fun b hb => HS.out b hb) Hoo.out, fun b hb => ⟨.inl hb, by have := HS.out b hb; omega⟩, Only.refl _ _⟩
    case round =>
      obtain ⟨k, hk, rfl, S', Hs, HS', Ho⟩ := hrel
      obtain ⟨wo, rfl⟩ : ∃ wo : World, wo = wr := ⟨_, rfl⟩
      have hso := Ho.out.size
      obtain ⟨s1, s2, s3, rfl⟩ := Hs.out.shape
      by_cases hltk : k < L.length
      · obtain ⟨l, hl⟩ : ∃ l, L[k]? = some l := ⟨_, List.getElem?_eq_getElem hltk⟩
        obtain ⟨gL, capL, heL, -⟩ := HoL.out.inv_ne (by omega)
        simp only [Value.slice.injEq, true_and] at heL
        obtain ⟨rfl, hcc⟩ := heL
        subst hcc
        have hoLk : Own 24 (Own 3 IntV) (Iv w.heap.size wl.heap.size) wo (.slice (some ⟨gL, 0, none⟩) L.length cL) L := (rOwn (rOwn rIntV)).same (fun b hb => Ho.out.block b hb.2 fun h => by have := HS.out b h; have := hb.1; omega) HoL.out
        obtain ⟨-, -, -, -, T, uk, hcell, hr2, hT, -⟩ := hoLk.focus (rOwn rIntV) hl
        obtain ⟨y1, y2, y3, rfl⟩ := hr2.shape
        obtain rfl := hr2.ints.len
        have hmem := bitRows_mem.1 (by have h := List.mem_of_getElem? hl; rw [HL.out] at h; exact h)
        have Hmem := Lib.hid hmem
        have Hr2 := Lib.hid hr2
        have HT := Lib.hid hT
        have Hl := Lib.hid hl
        -- what is read is kept
        have HK : Hid (∀ W, Below wo.heap.size wo W → SameOn (fun b => b < w.heap.size ∧ ¬ S b) w W) := fun W hW b hb => (hW.block b (by have := hb.1; omega)).trans ((Ho.out.block b (by have := hb.1; omega) hb.2).trans (Hbl.out.block b hb.1))
        have HcO := Lib.hid ((rSl rIntV).same (HK.out wo (Below.refl _ _)) Hc.out)
        have Hci := Lib.hid (show Ints wo (.slice ac ys.length cc) ys from (rSl rIntV).mono (fun b hb => by have := hb.1; show b < wo.heap.size; omega) HcO.out)
        have hlI := hr2.ints
        clear hoLk hr2 hT hl hmem
        go_wp2_with (fail)
        refine (l05Left_c _ _ ys l _ Hci.out hlI Hmem.out.1 hy5 Hyb.out Hmem.out.2.1).mono ?_
        rintro e w1 ⟨v1, rfl, o1', b1⟩
        obtain ⟨lv1, lv2, lv3, rfl⟩ := o1'.shape
        obtain ⟨ok, hok⟩ : ∃ ok, ok = rowFits ys l := ⟨_, rfl⟩
        rw [← hok]
        have Hok := Lib.hid hok
        have Ho1' := Lib.hid o1'
        have B1 := Lib.hid b1
        have hs1 := b1.size
        have HlI1 := Lib.hid (hlI.keep b1)
        have Hll := Lib.hid (leftOver_len Hmem.out.1)
        have HrT := Lib.hid (show Sl IntV (fun b => b < w.heap.size ∧ ¬ S b) w (.slice (if cr = 1 then some ⟨br, offr, none⟩ else some ⟨br, offr + 1, none⟩) (nx - 1) (cr - 1)) xs from by
          have h := Hr.out.tail
          rw [show xs.length = nx - 1 from by have := Hnx.out; omega] at h
          exact h)
        obtain ⟨left, hleft⟩ : ∃ left, left = leftOver ys l := ⟨_, rfl⟩
        rw [← hleft] at Hll
        have Hleft := Lib.hid hleft
        clear hcell hlI b1 hok o1' hleft
        go_upto_region 7 with (fail)
        go_cut [59] (fun s59 wx => s59 = .bool (ok && goesOn xs left) ∧ Hid (Below w1.heap.size w1 wx))
        case first =>
          cases ok
          · go_wp2
            go_meet
            exact ⟨rfl, Below.refl _ _⟩
          · have ho1 := Ho1'.out
            have hf := Hok.out.symm
            unfold leftRes at ho1
            rw [hf, if_pos rfl, ← Hleft.out] at ho1
            have hlen1 := ho1.ints.len
            subst hlen1
            have HL1 := Lib.hid ho1.ints
            have Hsm := Lib.hid (show Small left from by rw [Hleft.out]; exact small_5 (leftOver_bd Hmem.out.1 Hyb.out Hmem.out.2.1 hf) (by rw [← Hleft.out, Hll.out]; exact hy5))
            clear ho1 hf
            by_cases hx0 : xs.length = 0
            · have hb1 : ((nx : Int) == 1) = true := by rw [beq_iff_eq]; have := Hnx.out; omega
              have Hg := Lib.hid (show goesOn xs left = decide (sumL left = 0) from by unfold goesOn; rw [if_pos hx0])
              have hnx1 : decide ((nx : Int) > 1) = false := by rw [decide_eq_false_iff_not]; have := Hnx.out; omega
              have hnx2 : decide ((1 : Int) < nx) = false := by rw [decide_eq_false_iff_not]; have := Hnx.out; omega
              clear hx0
              obtain ⟨z, hz⟩ : ∃ z, z = sumL left := ⟨_, rfl⟩
              rw [← hz] at Hg
              have Hz := Lib.hid hz
              clear hz
              by_cases hsum : z = 0
              · have hb2 : (z == 0) = true := by rw [beq_iff_eq]; exact hsum
                have Hs0 := Lib.hid (show goesOn xs left = true from by rw [Hg.out]; simp [hsum])
                clear hsum
                go_wp2_with (first | (go_at_call 132; refine (l03Total_c _ _ _ (by exact HL1.out) Hsm.out).mono ?_; rintro e w' ⟨rfl, rfl⟩; rw [← Hz.out]))
                go_meet
                exact ⟨by rw [Hs0.out]; rfl, Below.refl _ _⟩
              · have hb2 : (z == 0) = false := by rw [beq_eq_false_iff_ne]; exact hsum
                have Hs0 := Lib.hid (show goesOn xs left = false from by rw [Hg.out]; simp [hsum])
                clear hsum
                go_wp2_with (first | (go_at_call 132; refine (l03Total_c _ _ _ (by exact HL1.out) Hsm.out).mono ?_; rintro e w' ⟨rfl, rfl⟩; rw [← Hz.out]))
                go_meet
                exact ⟨by rw [Hs0.out]; rfl, Below.refl _ _⟩
            · have hb1 : ((nx : Int) == 1) = false := by rw [beq_eq_false_iff_ne]; have := Hnx.out; omega
              have Hg := Lib.hid (show goesOn xs left = existsB xs left from by unfold goesOn; rw [if_neg hx0])
              have hnx1 : decide ((nx : Int) > 1) = true := by rw [decide_eq_true_eq]; have := Hnx.out; omega
              have hnx2 : decide ((1 : Int) < nx) = true := by rw [decide_eq_true_eq]; have := Hnx.out; omega
              have hcr1 : ¬ cr = 1 := by have := Hnx.out; omega
              have hnx3 : 1 < nx := by have := Hnx.out; omega
              clear hx0
              have HT1 := Lib.hid (show Ints w1 (.slice (some ⟨br, offr + 1, none⟩) (nx - 1) (cr - 1)) xs from by
                have h := (rSl rIntV).same (HK.out w1 B1.out) HrT.out
                rw [if_neg hcr1] at h
                exact (rSl rIntV).mono (fun b hb => by have := hb.1; show b < w1.heap.size; omega) h)
              have HT2 := Lib.hid (show nx - 1 = xs.length from by have := Hnx.out; omega)
              cases hex : existsB xs left
              · have Hex := Lib.hid hex
                clear hex
                go_wp2_with (first | (go_at_call 133; refine (Exists_s _ _ xs left _ (by exact HT1.out) (by exact HL1.out)).mono ?_; rintro e wx ⟨rfl, bx⟩; rw [Hex.out]))
                go_meet
                exact ⟨by rw [Hg.out, Hex.out]; rfl, bx⟩
              · have Hex := Lib.hid hex
                clear hex
                go_wp2_with (first | (go_at_call 133; refine (Exists_s _ _ xs left _ (by exact HT1.out) (by exact HL1.out)).mono ?_; rintro e wx ⟨rfl, bx⟩; rw [Hex.out]))
                go_meet
                exact ⟨by rw [Hg.out, Hex.out]; rfl, bx⟩
        case rest =>
          obtain ⟨rfl, HbX⟩ := hcut
          obtain ⟨wx, rfl⟩ : ∃ wx, wx = wc := ⟨_, rfl⟩
          have hsx := HbX.out.size
          have HBX := Lib.hid (B1.out.trans_pure HbX.out (Nat.le_refl _))
          have hwx := HBX.out.size
          obtain ⟨cnd, hcnd⟩ : ∃ cnd, cnd = (ok && goesOn xs left) := ⟨_, rfl⟩
          rw [← hcnd]
          cases cnd
          · have Hno := Lib.hid (show rowsTo xs ys L (k + 1) = rowsTo xs ys L k from by
              rw [rowsTo_succ Hl.out, rowsG_no, List.append_nil]
              rw [← Hleft.out, ← Hok.out]; exact hcnd.symm)
            clear hcnd
            go_wp2
            go_roundw
            case rel => exact ⟨k + 1, by omega, by go_num, S', by rw [Hno.out]; exact (rOwn (rOwn (rOwn rIntV))).same (sameOn_below HBX.out fun b hb => (HS'.out b hb).2) Hs.out, fun b hb => ⟨(HS'.out b hb).1, Nat.lt_of_lt_of_le (HS'.out b hb).2 hwx⟩, Ho.out.trans' (Only.of_pure HBX.out _)⟩
            case measure => simp [intOf]; omega
          have hok : ok = true := by cases ok; simp at hcnd; rfl
          have hgo : goesOn xs left = true := by rw [hok] at hcnd; exact hcnd.symm
          have Hc2 := Lib.hid (show (rowFits ys l && goesOn xs (leftOver ys l)) = true from by rw [← Hleft.out, ← Hok.out, hok, hgo]; rfl)
          have ho1 : Own 3 IntV (Iv wo.heap.size w1.heap.size) w1 (.slice lv1 lv2 lv3) left := by
            have h := Ho1'.out
            unfold leftRes at h
            rwa [show rowFits ys l = true from by rw [← Hok.out]; exact hok, if_pos rfl, ← Hleft.out] at h
          have hlen1 := ho1.ints.len
          subst hlen1
          have Hlv := Lib.hid ho1
          have Hlb := Lib.hid (show ∀ y ∈ left, 0 ≤ y ∧ y ≤ 5 from by rw [Hleft.out]; exact leftOver_bd Hmem.out.1 Hyb.out Hmem.out.2.1 (by rw [← Hok.out]; exact hok))
          have hlf1 : 1 ≤ left.length := by rw [Hll.out]; exact hy1
          have hlf5 : left.length ≤ 5 := by rw [Hll.out]; exact hy5
          subst hok
          clear hcnd hgo ho1
          have hml : done.length ≤ 1048576 := by omega
          have HR := Lib.hid (show ∀ p ∈ done, p.length ≤ 1048576 from fun p hp => by have := Hdr.out p hp; omega)
          have HGd := Lib.hid (show ∀ W, Below wx.heap.size wx W → Grid W _ done from fun W hW => (rSl (rSl rIntV)).mono (fun b hb => by have := hb.1; have := hW.size; show b < W.heap.size; omega) ((rSl (rSl rIntV)).same (HK.out W (HBX.out.trans_pure hW (Nat.le_refl _))) Hd.out))
          have Hvr := Lib.hid (show ∀ W, Below wx.heap.size wx W → Sl IntV (fun b => b < W.heap.size ∧ ¬ S' b) W (.slice (if cr = 1 then some ⟨br, offr, none⟩ else some ⟨br, offr + 1, none⟩) (nx - 1) (cr - 1)) xs from fun W hW => (rSl rIntV).mono (fun b hb => ⟨by have := hb.1; have := hW.size; omega, fun h => (HS'.out b h).1.elim hb.2 (fun h2 => by have := hb.1; omega)⟩) ((rSl rIntV).same (HK.out W (HBX.out.trans_pure hW (Nat.le_refl _))) HrT.out))
          have Hvc := Lib.hid (show ∀ W, Below wx.heap.size wx W → Sl IntV (fun b => b < W.heap.size ∧ ¬ S' b) W (.slice lv1 left.length lv3) left from fun W hW => (rSl rIntV).mono (fun b hb => ⟨by have := hb.2; have := hW.size; omega, fun h => by have := (HS'.out b h).2; have := hb.1; omega⟩) ((rSl rIntV).same (sameOn_below (HbX.out.trans_pure hW (Nat.le_refl _)) fun b hb => hb.2) (Hlv.out.sl (fun _ _ _ _ h => h) rIntV)))
          have Hs3 := Lib.hid (show ∀ W, Below wx.heap.size wx W → Own 23 (Own 24 (Own 3 IntV)) S' W (.slice s1 s2 s3) (out ++ (rowsTo xs ys L k).map (done ++ ·)) from fun W hW => (rOwn (rOwn (rOwn rIntV))).same (sameOn_below (HBX.out.trans_pure hW (Nat.le_refl _)) fun b hb => (HS'.out b hb).2) Hs.out)
          have HrX := Lib.hid ((rOwn rIntV).same (sameOn_below HBX.out fun b hb => by have := (HT.out b hb).1.2; omega) Hr2.out)
          have hdl2 : (done ++ [l]).length + xs.length ≤ 5 := by rw [List.length_append, List.length_singleton]; omega
          have Hdr2 := Lib.hid (show ∀ row ∈ done ++ [l], row.length ≤ 5 from fun row hrow => by
            rcases List.mem_append.1 hrow with h | h
            · exact Hdr.out row h
            · rw [List.mem_singleton] at h; rw [h, Hmem.out.1]; exact hy5)
          have Hol := Lib.hid (show (out ++ (rowsTo xs ys L k).map (done ++ ·)).length + (rowsAll xs left).length ≤ 1099511627775 from by
            have h1 := rowsTo_len (r := r) (rows := xs) (cols := ys) (k := k + 1) HL.out
            rw [rowsTo_succ Hl.out, List.length_append, rowsG_len Hc2.out, ← Hleft.out] at h1
            have h2 := Hout.out
            rw [List.length_append, List.length_map]; omega)
          have HnT := Lib.hid (show ∀ b, S' b → ¬ T b from fun b h1 h2 => by
            have h3 := (HT.out b h2).1
            have h4 := h3.1
            have h5 := h3.2
            rcases (HS'.out b h1).1 with h | h
            · have := HS.out b h; omega
            · omega)
          have hrl5 : done.length < 1099511627776 := by omega
          have Hbox := Lib.hid (Below.pureAlloc wx (.cells #[.slice y1 l.length y3] 24))
          have Hkb := Lib.hid (Blk.new wx #[.slice y1 l.length y3] 24)
          have Hst7 := Lib.hid (show out ++ (rowsTo xs ys L (k + 1)).map (done ++ ·) = (out ++ (rowsTo xs ys L k).map (done ++ ·)) ++ (rowsAll xs left).map ((done ++ [l]) ++ ·) from by
            rw [rowsTo_succ Hl.out, List.map_append, rowsG_yes Hc2.out, ← Hleft.out, List.append_assoc])
          have hnx1 : (1 : Int) ≤ nx := by omega
          go_wp2
          go_region_law (first
            | (refine step_app1g (w := w5.alloc (.cells #[.slice y1 l.length y3] 24)) (v := .slice r1 r2 r3) (u := .slice y1 l.length y3) (x := l) (gb := w5.heap.size) (c := 1) rfl (.tmp 62) (.tmp 64) 23 rfl (rOwn rIntV) 24 Tryd.underlying23 infoIntsL rfl (by decide) (Iv wx.heap.size w5.heap.size) T (by simp [Act.eval]) (by simp [Act.eval]) (by exact (Blk.new w5 #[.slice y1 l.length y3] 24).cell 0) (by exact Ho5b.out) (by exact Hr5b.out) (fun b h1 h2 => by have := h1.1; have := (HT.out b h2).1.2; omega) (fun b h1 => Nat.lt_of_lt_of_le h1.2 Hx5.out.size) (fun b h1 => Nat.lt_of_lt_of_le (by have := (HT.out b h1).1.2; omega : b < w5.heap.size) Hx5.out.size) hrl5 ?_; intro v3 w3 o3 h3; obtain ⟨z1, z2, z3, rfl⟩ := o3.shape; have hx3 : Below wx.heap.size w5 w3 := (Hx5.out.mono hB5).trans (h3.below (Nat.le_trans hB5 Hx5.out.size) (fun b hb => (Ho5.out.ownBlock' b hb).1)); have B3 := Lib.hid (HB5.out.trans hx3); have hB3 := B3.out.size; have HX := Lib.hid (Nat.le_trans hB5 Hx5.out.size); have H3 := Lib.hid o3; have Hd3 := Lib.hid (show Sl (Sl IntV) (fun b => b < w3.heap.size ∧ ¬ S' b) w3 (.slice z1 z2 z3) (done ++ [l]) from (rSl (rSl rIntV)).mono (fun b hb => ⟨hb.2, fun h => (hb.1.elim (fun h1 => by have := h1.1; have := (HS'.out b h).2; omega) (fun h1 => h1.elim (fun h1 => HnT.out b h h1) (fun h1 => by have := (HS'.out b h).2; have := HX.out; omega)))⟩) (H3.out.sl (fun _ _ _ _ h => h.sl (fun _ _ _ _ h => h) rIntV) (rSl rIntV))); clear o3 h3 hx3)
            | (refine step_app1g (w := w5) (v := .slice r1 r2 r3) (u := .slice y1 l.length y3) (x := l) (gb := wx.heap.size) (c := 1) rfl (.tmp 62) (.tmp 64) 23 rfl (rOwn rIntV) 24 Tryd.underlying23 infoIntsL rfl (by decide) (Iv wx.heap.size w5.heap.size) T (by simp [Act.eval]) (by simp [Act.eval]) (by exact Hk1.out.cell 0) (by exact Ho5.out) (by exact Hr5.out) (fun b h1 h2 => by have := h1.1; have := (HT.out b h2).1.2; omega) (fun b h1 => h1.2) (fun b h1 => by have := (HT.out b h1).1.2; omega) hrl5 ?_; intro v3 w3 o3 h3; obtain ⟨z1, z2, z3, rfl⟩ := o3.shape; have hx3 : Below wx.heap.size w5 w3 := h3.below hB5 (fun b hb => (Ho5.out.ownBlock' b hb).1); have B3 := Lib.hid (HB5.out.trans hx3); have hB3 := B3.out.size; have HX := Lib.hid (hB5); have H3 := Lib.hid o3; have Hd3 := Lib.hid (show Sl (Sl IntV) (fun b => b < w3.heap.size ∧ ¬ S' b) w3 (.slice z1 z2 z3) (done ++ [l]) from (rSl (rSl rIntV)).mono (fun b hb => ⟨hb.2, fun h => (hb.1.elim (fun h1 => by have := h1.1; have := (HS'.out b h).2; omega) (fun h1 => h1.elim (fun h1 => HnT.out b h h1) (fun h1 => by have := (HS'.out b h).2; have := HX.out; omega)))⟩) (H3.out.sl (fun _ _ _ _ h => h.sl (fun _ _ _ _ h => h) rIntV) (rSl rIntV))); clear o3 h3 hx3)
            | (go_simp; go_at_call 81; refine (l02Copy_c _ done _ (HGd.out _ (by exact ⟨rfl, rfl, rfl, Nat.le_refl _, fun _ _ => rfl⟩)) hml HR.out).mono ?_; rintro e w5 ⟨v5, rfl, o5, b1⟩; obtain ⟨r1, r2, r3, rfl⟩ := o5.shape; have HB5 := Lib.hid (show Below wx.heap.size wx w5 from ⟨b1.os, b1.tape, b1.output, b1.size, b1.block⟩); have Ho5 := Lib.hid ((rOwn (rOwn rIntV)).mono (S' := Iv wx.heap.size w5.heap.size) (fun b hb => ⟨Nat.le_trans (Nat.le_refl _) hb.1, hb.2⟩) o5); have hB5 := HB5.out.size; have Hx5 := Lib.hid (Below.pureAlloc w5 (.cells #[.slice y1 l.length y3] 24)); have Hr5 := Lib.hid ((rOwn rIntV).same (sameOn_below HB5.out fun b hb => by have := (HT.out b hb).1.2; omega) HrX.out); have Ho5b := Lib.hid ((rOwn (E := 24) (rOwn (E := 3) rIntV)).same (sameOn_below Hx5.out fun b hb => hb.2) Ho5.out); have Hr5b := Lib.hid ((rOwn rIntV).same (sameOn_below Hx5.out fun b hb => by have := (HT.out b hb).1.2; omega) Hr5.out); clear o5 b1)
            | (go_simp; go_at_call 81; refine (l02Copy_c _ done _ (HGd.out _ (by exact ⟨Hbox.out.os, Hbox.out.tape, Hbox.out.output, Hbox.out.size, Hbox.out.block⟩)) hml HR.out).mono ?_; rintro e w5 ⟨v5, rfl, o5, b1⟩; obtain ⟨r1, r2, r3, rfl⟩ := o5.shape; have Hk1 := Lib.hid (show Blk w5 wx.heap.size #[.slice y1 l.length y3] 24 from Hkb.out.keep ⟨b1.os, b1.tape, b1.output, b1.size, b1.block⟩); have HB5 := Lib.hid (show Below wx.heap.size wx w5 from Hbox.out.trans (Below.mono ⟨b1.os, b1.tape, b1.output, b1.size, b1.block⟩ Hbox.out.size)); have Ho5 := Lib.hid ((rOwn (rOwn rIntV)).mono (S' := Iv wx.heap.size w5.heap.size) (fun b hb => ⟨Nat.le_trans (Hbox.out.size) hb.1, hb.2⟩) o5); have hB5 := HB5.out.size; have Hx5 := Lib.hid (Below.pureAlloc w5 (.cells #[.slice y1 l.length y3] 24)); have Hr5 := Lib.hid ((rOwn rIntV).same (sameOn_below HB5.out fun b hb => by have := (HT.out b hb).1.2; omega) HrX.out); have Ho5b := Lib.hid ((rOwn (E := 24) (rOwn (E := 3) rIntV)).same (sameOn_below Hx5.out fun b hb => hb.2) Ho5.out); have Hr5b := Lib.hid ((rOwn rIntV).same (sameOn_below Hx5.out fun b hb => by have := (HT.out b hb).1.2; omega) Hr5.out); clear o5 b1)
            | (go_simp; go_at_call 134; refine (IH.out left _ _ _ _ (done ++ [l]) S' (out ++ (rowsTo xs ys L k).map (done ++ ·)) _ (by omega) hlf1 hlf5 Hxb.out Hlb.out (fun b hb => Nat.lt_of_lt_of_le (HS'.out b hb).2 (Nat.le_trans hwx hB3)) (Hs3.out _ ⟨B3.out.os, B3.out.tape, B3.out.output, B3.out.size, B3.out.block⟩) Hd3.out (by exact Hvr.out _ ⟨B3.out.os, B3.out.tape, B3.out.output, B3.out.size, B3.out.block⟩) (by exact Hvc.out _ ⟨B3.out.os, B3.out.tape, B3.out.output, B3.out.size, B3.out.block⟩) hdl2 Hdr2.out Hol.out).mono ?_; rintro e w4 ⟨v4, S4, rfl, o4, h4, O4⟩; obtain ⟨t1, t2, t3, rfl⟩ := o4.shape; have Ho4 := Lib.hid o4; have H4 := Lib.hid h4; have HO4 := Lib.hid (show Only S' w3 w4 from ⟨O4.os, O4.tape, O4.output, O4.size, O4.block⟩); clear o4 h4 O4))
          all_goals go_wp2
          all_goals go_roundw
          all_goals first
            | (simp [intOf]; omega)
            | exact ⟨k + 1, by omega, by go_num, S4, by rw [Hst7.out]; exact Ho4.out, fun b hb => ⟨(H4.out b hb).1.elim (fun h => (HS'.out b h).1) (fun h => .inr (by omega)), (H4.out b hb).2⟩, (Ho.out.trans' (Only.of_pure (HBX.out.trans_pure B3.out (Nat.le_refl _)) _)).trans' (HO4.out.mono fun b hb _ => (HS'.out b hb).1)⟩
      · have Hfin := Lib.hid (show rowsTo xs ys L k = rowsAll (r :: xs) ys from rowsTo_all HL.out (by omega))
        go_wp2
        go_ret
        exact ⟨_, S', rfl, by rw [← Hfin.out]; exact Hs.out, fun b hb => ⟨(HS'.out b hb).1.imp id (fun h => by omega), (HS'.out b hb).2⟩, (Only.of_pure Hbl.out S).trans' (Ho.out.mono fun b hb _ => .inl hb)⟩
end Go.Proofs.YtlmjpmdkifoekaaDoor

namespace Go.Proofs.YtlmjpmdkifoekaaDoor
open Go.RowKit

theorem imgs_len {xs ys : List Int} (h : sumsOk xs ys = true) : (allImgs xs ys).length ≤ 1073741824 := by
  obtain ⟨-, h2, -, h4, -⟩ := sumsOk_bd h
  refine Nat.le_trans (allImgs_len xs ys) ?_
  have h5 : xs.length * (ys.length + 1) ≤ 5 * 6 := Nat.mul_le_mul h2 (by omega)
  exact Nat.le_trans (Nat.pow_le_pow_right (by decide) h5) (by decide)
theorem imgsOf_ok {xs ys : List Int} (h : sumsOk xs ys = true) : imgsOf xs ys = allImgs xs ys := by unfold imgsOf; rw [h]; rfl
theorem imgsOf_no {xs ys : List Int} (h : sumsOk xs ys = false) : imgsOf xs ys = [] := by unfold imgsOf; rw [h]; rfl
theorem imgsOf_none {xs ys : List Int} (h : existsB xs ys = false) : imgsOf xs ys = [] := by
  cases hok : sumsOk xs ys
  · exact imgsOf_no hok
  · rw [imgsOf_ok hok]
    apply Classical.byContradiction
    intro hne
    rw [(existsB_imgs hok).2 hne] at h
    cases h
theorem imgsOf_some {xs ys : List Int} (h : existsB xs ys = true) : imgsOf xs ys ≠ [] := by
  have hok := existsB_ok h
  rw [imgsOf_ok hok]
  exact (existsB_imgs hok).1 h
theorem imgsOf_len (xs ys : List Int) : (imgsOf xs ys).length ≤ 1073741824 := by
  cases hok : sumsOk xs ys
  · rw [imgsOf_no hok]; simp
  · rw [imgsOf_ok hok]; exact imgs_len hok
theorem sumsOk_5 {xs ys : List Int} (h : sumsOk xs ys = true) : (∀ x ∈ xs, 0 ≤ x ∧ x ≤ 5) ∧ ∀ y ∈ ys, 0 ≤ y ∧ y ≤ 5 := by
  obtain ⟨a, b⟩ := sumsOk_all h
  obtain ⟨-, h2, -, h4, -⟩ := sumsOk_bd h
  constructor
  · intro x hx
    have := List.all_eq_true.1 a x hx
    rw [inR_iff] at this; omega
  · intro x hx
    have := List.all_eq_true.1 b x hx
    rw [inR_iff] at this; omega
set_option maxRecDepth 100000 in
set_option maxHeartbeats 1000000 in
theorem AllImages_s (v v2 : Value) (xs ys : List Int) (w : World) (hv : Ints w v xs) (hv2 : Ints w v2 ys) : Calls Tryd.prog 113 #[v, v2] w fun e w' => ∃ vo, e = .returned (.tuple #[vo, .bool (sumsOk xs ys)]) ∧ Own 23 (Own 24 (Own 3 IntV)) (Iv w.heap.size w'.heap.size) w' vo (imgsOf xs ys) ∧ Below w.heap.size w w' := by
  have Hv := Lib.hid hv
  have Hv2 := Lib.hid hv2
  obtain ⟨a, cap, rfl, -⟩ := hv
  obtain ⟨a2, cap2, rfl, -⟩ := hv2
  cases hok : sumsOk xs ys
  · have Hr := Lib.hid (imgsOf_no hok)
    have Hok := Lib.hid hok
    clear hok
    go_enter Tryd.func113, Tryd.ntmps113
    go_wp2_with (fail)
    refine (SumsOk_s _ _ _ _ _ Hv.out Hv2.out).mono ?_
    rintro e w' ⟨rfl, rfl⟩
    rw [Hok.out]
    go_wp2
    go_ret2
    exact ⟨_, rfl, by rw [Hr.out]; exact Own.nil _ _ _ _, Below.refl _ _⟩
  cases hex : existsB xs ys
  · have Hr := Lib.hid (imgsOf_none hex)
    have Hok := Lib.hid hok
    have Hex := Lib.hid hex
    clear hok hex
    go_enter Tryd.func113, Tryd.ntmps113
    go_wp2_with (fail)
    refine (SumsOk_s _ _ _ _ _ Hv.out Hv2.out).mono ?_
    rintro e w' ⟨rfl, rfl⟩
    rw [Hok.out]
    go_wp2_with (fail)
    refine (Exists_s _ _ _ _ _ Hv.out Hv2.out).mono ?_
    rintro e w2 ⟨rfl, b2⟩
    rw [Hex.out]
    go_wp2
    go_ret2
    exact ⟨_, rfl, by rw [Hr.out]; exact Own.nil _ _ _ _, b2⟩
  · obtain ⟨-, h2, h3, h4, -⟩ := sumsOk_bd hok
    obtain ⟨h5, h6⟩ := sumsOk_5 hok
    have Hr := Lib.hid (show imgsOf xs ys = rowsAll xs ys from by rw [imgsOf_ok hok, rowsAll_eq hok])
    have hlen := imgs_len hok
    rw [← rowsAll_eq hok] at hlen
    have Hlen := Lib.hid hlen
    have Hok := Lib.hid hok
    have Hex := Lib.hid hex
    clear hok hex hlen
    go_enter Tryd.func113, Tryd.ntmps113
    go_wp2_with (fail)
    refine (SumsOk_s _ _ _ _ _ Hv.out Hv2.out).mono ?_
    rintro e w' ⟨rfl, rfl⟩
    rw [Hok.out]
    go_wp2_with (fail)
    refine (Exists_s _ _ _ _ _ Hv.out Hv2.out).mono ?_
    rintro e w2 ⟨rfl, b2⟩
    rw [Hex.out]
    have Hcall := Lib.hid (l05All_c xs ys (.slice none 0 0) (.slice none 0 0) (.slice a xs.length cap) (.slice a2 ys.length cap2) [] (fun _ => False) [] w2 h2 h3 h4 h5 h6 (fun _ h => h.elim) (Own.nil _ _ _ _)
      ⟨none, 0, rfl, by simp, by simp, fun _ => rfl, fun h => by simp at h⟩ ((rSl rIntV).mono (fun b hb => ⟨hb, fun h => h⟩) (Hv.out.keep b2)) ((rSl rIntV).mono (fun b hb => ⟨hb, fun h => h⟩) (Hv2.out.keep b2)) (by simpa using h2) (fun row hr => by cases hr) (by have := Hlen.out; simp; omega))
    clear h5 h6
    go_wp2_with (fail)
    refine (Hcall.out).mono ?_
    rintro e w3 ⟨v3, S3, rfl, o3, h3', O3⟩
    obtain ⟨t1, t2, t3, rfl⟩ := o3.shape
    have Ho3 := Lib.hid o3
    have Hh3 := Lib.hid h3'
    have HO3 := Lib.hid O3
    have hs2 := b2.size
    clear o3 h3' O3 Hcall
    go_wp2
    go_ret2
    refine ⟨_, rfl, ?_, b2.trans_pure (HO3.out.below (Nat.le_refl _) fun _ h => h.elim) (Nat.le_refl _)⟩
    rw [Hr.out]
    have h := Ho3.out
    rw [List.nil_append, show (rowsAll xs ys).map ([] ++ ·) = rowsAll xs ys from by simp] at h
    exact (rOwn (rOwn (rOwn rIntV))).mono (fun b hb => ⟨by have := (Hh3.out b hb).1; simp at this; omega, (Hh3.out b hb).2⟩) h
end Go.Proofs.YtlmjpmdkifoekaaDoor

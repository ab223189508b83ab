/- Contracts: ClosestImage. -/
import Derived.Test.YtekgnpdchpdfiaaC18
import Derived.Test.YtekgnpdchpdfiaaC9

namespace Go.Proofs.Ytekgnpdchpdfiaa
open Go.RowKit

theorem meas {P k : Nat} (h : k < P) : P - (intOf (.int .i64 ((k : Int) + 1))).toNat < P - (intOf (.int .i64 (k : Int))).toNat := by simp [intOf]; omega
theorem pow_wrap' {n : Nat} (h : n ≤ 40) : wrap64 ((2 : Int) ^ n) = ((2 ^ n : Nat) : Int) := by
  have h1 : 2 ^ n ≤ 2 ^ 40 := Nat.pow_le_pow_right (n := 2) (by decide) h
  have h2 : ((2 ^ n : Nat) : Int) = (2 : Int) ^ n := by simp
  rw [← h2]
  obtain ⟨m, hm⟩ : ∃ m : Nat, m = 2 ^ n := ⟨_, rfl⟩
  rw [← hm] at h1 ⊢
  unfold wrap64
  omega
theorem closeTo_succ_none {rows cols : List Int} {k : Nat} (h : closeTo rows cols k = none) : closeTo rows cols (k + 1) = some (k, changeOf rows cols (imgOf rows.length cols.length k)) := by simp only [closeTo, h]
theorem closeTo_succ_lt {rows cols : List Int} {k b : Nat} {l : Int} (h : closeTo rows cols k = some (b, l)) (hl : changeOf rows cols (imgOf rows.length cols.length k) < l) : closeTo rows cols (k + 1) = some (k, changeOf rows cols (imgOf rows.length cols.length k)) := by simp only [closeTo, h]; rw [if_pos hl]
theorem closeTo_succ_ge {rows cols : List Int} {k b : Nat} {l : Int} (h : closeTo rows cols k = some (b, l)) (hl : ¬ changeOf rows cols (imgOf rows.length cols.length k) < l) : closeTo rows cols (k + 1) = some (b, l) := by simp only [closeTo, h]; rw [if_neg hl]

theorem imgOf_len (r c key : Nat) : (imgOf r c key).length = r := by simp [imgOf, imgFrom]

/-- the three results: an image, a number, and whether there is one -/
def CloseRes (w : World) (rows cols : List Int) (x : Option (Nat × Int)) (e : Ending) (w' : World) : Prop :=
  ∃ v', e = .returned (.tuple #[v', .int .i64 (closeNum x), .bool x.isSome]) ∧ Own 41 (Own 3 IntV) (Iv w.heap.size w'.heap.size) w' v' (closeImg rows cols x) ∧ Below w.heap.size w w'

theorem ClosestImage_ib (v1 v2 : Value) (rows cols : List Int) (w : World) (h1 : Ints w v1 rows) (h2 : Ints w v2 cols) (hbad : closeOk rows cols = false) :
    Calls Try.prog 33 #[v1, v2] w (CloseRes w rows cols (closest rows cols)) := by
  have hcl : closest rows cols = none := by unfold closest; rw [hbad]; rfl
  rw [hcl]
  have H1 := Lib.hid h1
  have H2 := Lib.hid h2
  obtain ⟨a1, c1, rfl, -⟩ := id h1
  obtain ⟨a2, c2, rfl, -⟩ := id h2
  clear h1 h2 hcl
  cases hsf : sumsFit rows cols
  · have Hsf := Lib.hid hsf; clear hsf hbad
    go_enter Try.func33, Try.ntmps33
    go_wp2_with (fail)
    refine (SumsFit_i _ _ _ _ _ H1.out H2.out).mono ?_
    rintro e w' ⟨rfl, rfl⟩
    rw [Hsf.out]
    go_wp2
    refine bodyPost_ret (v := .tuple #[.slice none 0 0, .int .i64 0, .bool false]) (by simp [results, Try.results33, go_sem]) rfl ⟨_, rfl, Own.nil _ _ _ _, Below.refl _ _⟩
  · have hgt : 12 < rows.length * cols.length := by
      unfold closeOk at hbad; rw [hsf] at hbad; simpa using hbad
    obtain ⟨k1, k2, k3, k4, -, -⟩ := sumsFit_iff hsf
    obtain ⟨N, hN⟩ : ∃ N, N = rows.length * cols.length := ⟨_, rfl⟩
    have hN16 : N ≤ 16 := by rw [hN]; exact Nat.mul_le_mul k2 k4
    rw [← hN] at hgt
    have hmul : (rows.length : Int) * (cols.length : Int) = (N : Int) := by rw [hN]; simp
    have Hsf := Lib.hid hsf; clear hsf hbad hN
    go_enter Try.func33, Try.ntmps33
    go_wp2_with (fail)
    refine (SumsFit_i _ _ _ _ _ H1.out H2.out).mono ?_
    rintro e w' ⟨rfl, rfl⟩
    rw [Hsf.out]
    go_wp2
    refine bodyPost_ret (v := .tuple #[.slice none 0 0, .int .i64 0, .bool false]) (by simp [results, Try.results33, go_sem]) rfl ⟨_, rfl, Own.nil _ _ _ _, Below.refl _ _⟩

set_option maxHeartbeats 1600000 in
set_option maxRecDepth 100000 in
theorem ClosestImage_ig (v1 v2 : Value) (rows cols : List Int) (w : World) (h1 : Ints w v1 rows) (h2 : Ints w v2 cols) (hok : closeOk rows cols = true) :
    Calls Try.prog 33 #[v1, v2] w (CloseRes w rows cols (closest rows cols)) := by
  have hcl : closest rows cols = closeTo rows cols (2 ^ (rows.length * cols.length)) := by unfold closest; rw [if_pos hok]
  have heqn := fun (w : World) (a : Option Addr) (n c n' c' : Nat) => Lib.run_eql_slice_nil (P := Try.prog) w 22 41 a n c n' c' Try.underlying22
  unfold closeOk at hok
  rw [Bool.and_eq_true, decide_eq_true_eq] at hok
  obtain ⟨hsf, hle⟩ := hok
  obtain ⟨k1, k2, k3, k4, -, -⟩ := sumsFit_iff hsf
  have H1 := Lib.hid h1
  have H2 := Lib.hid h2
  obtain ⟨a1, c1, rfl, -⟩ := id h1
  obtain ⟨a2, c2, rfl, -⟩ := id h2
  clear h1 h2
  obtain ⟨N, hN⟩ : ∃ N, N = rows.length * cols.length := ⟨_, rfl⟩
  rw [← hN] at hle hcl
  have hN1 : 1 ≤ N := by rw [hN]; exact Nat.mul_le_mul k1 k3
  have hmul : (rows.length : Int) * (cols.length : Int) = (N : Int) := by rw [hN]; simp
  have hpow0 := pow_wrap' (n := N) (by omega)
  obtain ⟨P, hP⟩ : ∃ P : Nat, P = 2 ^ N := ⟨_, rfl⟩
  have hP4 : P ≤ 4096 := by rw [hP]; exact Nat.pow_le_pow_right (n := 2) (by decide) hle
  have hP1 : 1 ≤ P := by rw [hP]; exact Nat.two_pow_pos N
  rw [← hP] at hcl hpow0
  have hpow : wrap64 ((2 : Int) ^ N) = (P : Int) := hpow0
  have Hsf := Lib.hid hsf
  have HN := Lib.hid hN
  have Hcl := Lib.hid hcl
  clear hsf hN hP hpow0 hcl
  go_enter Try.func33, Try.ntmps33
  go_wp2_with (fail)
  refine (SumsFit_i _ _ _ _ _ H1.out H2.out).mono ?_
  rintro e w' ⟨rfl, rfl⟩
  rw [Hsf.out]
  go_wp2
  go_loopw [8, 9, 10, 11, 12, 13] (fun best least key _ _ _ wr => ∃ k : Nat, k ≤ P ∧ key = .int .i64 k ∧ Below w.heap.size w wr ∧ ((k = 0 ∧ best = .slice none 0 0 ∧ least = .int .i64 0) ∨ ∃ (b : Nat) (l : Int), closeTo rows cols k = some (b, l) ∧ least = .int .i64 l ∧ (0 ≤ l ∧ l ≤ 40) ∧ Own 41 (Own 3 IntV) (Iv w.heap.size wr.heap.size) wr best (imgOf rows.length cols.length b))) (fun _ _ key _ _ _ _ => P - (intOf key).toNat)
  case atStart => exact ⟨0, Nat.zero_le _, rfl, Below.refl _ _, .inl ⟨rfl, rfl, rfl⟩⟩
  case round =>
    obtain ⟨k, hk, rfl, hbel, hst⟩ := hrel
    obtain ⟨wo, rfl⟩ : ∃ wo : World, wo = wr := ⟨_, rfl⟩
    have Hst := Lib.hid hst
    clear hst
    by_cases hlt : k < P
    · go_wp2_with (fail)
      refine (newGrid_c rows.length cols.length _ (by omega) (by omega)).mono ?_
      rintro e w1 ⟨v1, rfl, hown, hbel1⟩
      clear hpow hmul
      have hs1 := hbel1.size
      obtain ⟨G, cap, rfl, hG, hcapG, hGs, -⟩ := hown.inv_ne (by simp [zeros]; omega)
      have hzl : (zeros rows.length cols.length).length = rows.length := by simp [zeros]
      rw [hzl] at hcapG hown ⊢
      rw [← imgTo_zero rows.length cols.length k] at hown
      have Hown := Lib.hid hown
      clear hown hzl
      go_wp2
      go_loopw [12] (fun nn wr => ∃ n : Nat, n ≤ N ∧ nn = .int .i64 n ∧ Own 41 (Own 3 IntV) (Iv wo.heap.size w1.heap.size) wr (.slice (some ⟨G, 0, none⟩) rows.length cap) (imgTo rows.length cols.length k n) ∧ Below wo.heap.size wo wr ∧ w1.heap.size ≤ wr.heap.size) (fun nn _ => N - (intOf nn).toNat)
      case atStart => exact ⟨0, Nat.zero_le _, rfl, Hown.out, hbel1, Nat.le_refl _⟩
      case round =>
        clear Hown hbel1
        obtain ⟨n, hn, rfl, hown, hbel2, hsz⟩ := hrel
        by_cases hltn : n < N
        · have hnN : n < rows.length * cols.length := by rw [← HN.out]; exact hltn
          have hky : n / cols.length < rows.length := by rw [Nat.div_lt_iff_lt_mul (by omega)]; exact hnN
          have hkx : n % cols.length < cols.length := Nat.mod_lt _ (by omega)
          have hq := imgTo_row (c := cols.length) (key := k) (n := n) hky
          obtain ⟨q, cq, hcell, -, hSq, hqG, hcq, hx, -, hset⟩ := own_grid_cell hown hq (by simp; omega)
          have hql : ((List.range cols.length).map fun x => if n / cols.length * cols.length + x < n then bitCell (rows.length * cols.length) k (n / cols.length * cols.length + x) else 0).length = cols.length := by simp
          rw [hql] at hcell hcq hx
          obtain ⟨⟨o, hco⟩, hfo⟩ := hx (n % cols.length) hkx
          have hnew := hset wr (fun _ _ => rfl) (n % cols.length) (bitCell (rows.length * cols.length) k n) (by rw [hql]; exact hkx) (I64.small (by have := (bitCell_bd (rows.length * cols.length) k n).1; omega) (by have := (bitCell_bd (rows.length * cols.length) k n).2; omega))
          rw [imgTo_step (by omega) hnN hq] at hnew
          have Hnew := Lib.hid hnew
          have hqs := hSq.1
          have hi1 : (0 : Int) ≤ (n : Int) / (cols.length : Int) := Int.ediv_nonneg (by omega) (by omega)
          have hi2 : (n : Int) / (cols.length : Int) < (rows.length : Int) := by rw [← Int.natCast_ediv]; omega
          have hi3 : (0 : Int) ≤ (n : Int) % (cols.length : Int) := Int.emod_nonneg _ (by omega)
          have hi4 : (n : Int) % (cols.length : Int) < (cols.length : Int) := Int.emod_lt_of_pos _ (by omega)
          clear hown hq hx hset hql hnew
          go_wp2
          go_region
          all_goals
            go_wp2
            go_roundw
            case rel =>
              refine ⟨n + 1, by omega, by go_num, ?_, (hbel2.setCell hqs _).drew, by show w1.heap.size ≤ (wr.setCell _ _).heap.size; rw [size_setCell]; exact hsz⟩
              rw [bit_at, HN.out]
              exact Hnew.out
            case measure => simp [intOf]; omega
        · obtain rfl : n = N := by omega
          have hown' : Own 41 (Own 3 IntV) (Iv wo.heap.size wr.heap.size) wr (.slice (some ⟨G, 0, none⟩) rows.length cap) (imgOf rows.length cols.length k) := by
            rw [← imgTo_all, ← HN.out]
            exact (rOwn (rOwn rIntV)).mono (fun b hb => ⟨hb.1, Nat.lt_of_lt_of_le hb.2 hsz⟩) hown
          have Hown := Lib.hid hown'
          have hbw := hbel.trans (hbel2.mono hbel.size)
          have hsw : wo.heap.size ≤ wr.heap.size := hbel2.size
          have hws : w.heap.size ≤ wo.heap.size := hbel.size
          clear hown hown'
          go_wp2_with (fail)
          refine (ChangeOf_i _ _ _ _ _ _ _ (H1.out.keep hbw) (H2.out.keep hbw) Hown.out.grid).mono ?_
          rintro e w3 ⟨rfl, hbel3⟩
          have hs3 : wr.heap.size ≤ w3.heap.size := hbel3.size
          have hbw3 := hbw.trans_pure hbel3 (Nat.le_refl _)
          have hbo3 := hbel2.trans_pure hbel3 (Nat.le_refl _)
          have hown3 : Own 41 (Own 3 IntV) (Iv w.heap.size w3.heap.size) w3 (.slice (some ⟨G, 0, none⟩) rows.length cap) (imgOf rows.length cols.length k) :=
            (rOwn (rOwn rIntV)).mono (fun b hb => ⟨by have := hb.1; omega, by have := hb.2; omega⟩) (Own.keep (rOwn rIntV) Hown.out hbel3 (Nat.le_refl _))
          have Hown3 := Lib.hid hown3
          clear hown3 Hown
          have hch := changeOf_bd (changeOk_img Hsf.out k)
          obtain ⟨ch, hchE⟩ : ∃ ch, ch = changeOf rows cols (imgOf rows.length cols.length k) := ⟨_, rfl⟩
          rw [← hchE] at hch ⊢
          obtain ⟨hch0, hch40⟩ := hch
          have HchE := Lib.hid hchE
          clear hchE
          rcases Hst.out with ⟨rfl, rfl, rfl⟩ | ⟨b, l, hcb, rfl, ⟨hl0, hl40⟩, ho⟩
          · have Hnext := Lib.hid (closeTo_succ_none (rows := rows) (cols := cols) (k := 0) rfl)
            go_wp2
            go_roundw
            case rel => exact ⟨1, by omega, by go_num, hbw3, .inr ⟨0, ch, by rw [HchE.out]; exact Hnext.out, rfl, ⟨hch0, hch40⟩, Hown3.out⟩⟩
            case measure => exact meas (k := 0) hP1
          · obtain ⟨gb, cb, rfl, -⟩ := ho.inv_ne (by rw [imgOf_len]; exact k1)
            have Ho := Lib.hid ho
            have Hcb := Lib.hid hcb
            clear ho hcb
            by_cases hlt3 : ch < l
            · have Hnext := Lib.hid (closeTo_succ_lt Hcb.out (by rw [← HchE.out]; exact hlt3))
              go_wp2
              go_roundw
              case rel => exact ⟨k + 1, by omega, by go_num, hbw3, .inr ⟨k, ch, by rw [HchE.out]; exact Hnext.out, rfl, ⟨hch0, hch40⟩, Hown3.out⟩⟩
              case measure => exact meas hlt
            · have Hnext := Lib.hid (closeTo_succ_ge Hcb.out (by rw [← HchE.out]; exact hlt3))
              go_wp2
              go_roundw
              case rel => exact ⟨k + 1, by omega, by go_num, hbw3, .inr ⟨b, l, Hnext.out, rfl, ⟨hl0, hl40⟩, Own.grow (rOwn rIntV) Ho.out (Nat.le_refl _) hbo3⟩⟩
              case measure => exact meas hlt
    · obtain rfl : k = P := by omega
      rcases Hst.out with ⟨h0, -, -⟩ | ⟨b, l, hcb, rfl, ⟨hl0, hl40⟩, ho⟩
      · omega
      obtain ⟨gb, cb, rfl, -⟩ := ho.inv_ne (by rw [imgOf_len]; exact k1)
      have Hb := Lib.hid (Hcl.out.trans hcb)
      have Ho := Lib.hid ho
      clear ho hcb
      go_wp2
      refine bodyPost_ret (v := .tuple #[.slice (some ⟨gb, 0, none⟩) (imgOf rows.length cols.length b).length cb, .int .i64 l, .bool true]) (by simp [results, Try.results33, go_sem]) rfl ⟨_, by rw [Hb.out]; rfl, by rw [Hb.out]; exact Ho.out, hbel⟩
theorem ClosestImage_i (v1 v2 : Value) (rows cols : List Int) (w : World) (h1 : Ints w v1 rows) (h2 : Ints w v2 cols) :
    Calls Try.prog 33 #[v1, v2] w (CloseRes w rows cols (closest rows cols)) := by
  cases h : closeOk rows cols
  · exact ClosestImage_ib _ _ _ _ _ h1 h2 h
  · exact ClosestImage_ig _ _ _ _ _ h1 h2 h
end Go.Proofs.Ytekgnpdchpdfiaa

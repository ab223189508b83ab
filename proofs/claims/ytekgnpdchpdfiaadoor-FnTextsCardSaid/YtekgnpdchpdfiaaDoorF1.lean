/- Contracts: numbers as texts: FormatInt. -/
import Derived.Test.YtekgnpdchpdfiaaDoorC1
import Derived.Test.YtekgnpdchpdfiaaDoorText
import Derived.Laws.BytesString
import Derived.Deep.RegionWith
import Derived.Deep.DeepFit
namespace Go.Proofs.YtekgnpdchpdfiaaDoor
open Go.RowKit

theorem run_byte1 {P : Program} (w : World) (src dst e : TypeId) (z : Int) (hs : P.underlying src = some (.slice e)) (he : P.underlying e = some (.int .u8)) (hd : P.underlying dst = some .string) :
    (convert src dst (.slice (some ⟨w.heap.size, 0, none⟩) 1 1)).run P (w.alloc (.cells #[.int .u8 z] e)) = .ok (.string ⟨#[UInt8.ofNat z.toNat]⟩) (w.alloc (.cells #[.int .u8 z] e)) := by
  rw [run_convert_bytes_string _ _ _ _ _ _ _ hs he hd]
  have hl : (loadCells ⟨w.heap.size, 0, none⟩ 1).run P (w.alloc (.cells #[.int .u8 z] e)) = .ok ([z].map (Value.int .u8)).toArray (w.alloc (.cells #[.int .u8 z] e)) := by
    have := run_loadCells_list (P := P) (w.alloc (.cells #[.int .u8 z] e)) ⟨w.heap.size, 0, none⟩ [.int .u8 z] (cell_new1 w _ e)
    simpa using this
  rw [run_bytesToString _ _ _ _ _ hl]
  rfl

theorem below_undrew {w w2 : World} (h : Below w.drew.heap.size w.drew w2) : Below w.heap.size w w2 := ⟨h.os, h.tape, h.output, h.size, h.block⟩
theorem retS1 {b b' : ByteArray} (h : b = b') : Ending.returned (.string b) = Ending.returned (.string b') := by rw [h]
theorem tdiv10 {n : Int} (h : n ≤ 0) : n.tdiv 10 = -((-n) / 10) := by
  have h2 : (-(-n)).tdiv 10 = -((-n).tdiv 10) := Int.neg_tdiv ..
  rw [Int.neg_neg, Int.tdiv_eq_ediv_of_nonneg (a := -n) (by omega)] at h2
  exact h2
theorem tmod10 (n : Int) : n.tmod 10 = n - 10 * n.tdiv 10 := Int.tmod_def n 10
theorem byte1 (w : World) (z : Int) : (convert 22 9 (.slice (some ⟨w.heap.size, 0, none⟩) 1 1)).run Tryd.prog (w.alloc (.cells #[.int .u8 z] 5)) = .ok (.string ⟨#[UInt8.ofNat z.toNat]⟩) (w.alloc (.cells #[.int .u8 z] 5)) :=
  run_byte1 w _ _ _ z Tryd.underlying22 Tryd.underlying5 Tryd.underlying9
theorem byteAt (w : World) (g : Nat) (z : Int) (h : w.cell? ⟨g, 0, none⟩ = some (.int .u8 z)) : (convert 22 9 (.slice (some ⟨g, 0, none⟩) 1 1)).run Tryd.prog w = .ok (.string ⟨#[UInt8.ofNat z.toNat]⟩) w := by
  rw [run_convert_bytes_string _ _ _ _ _ _ _ Tryd.underlying22 Tryd.underlying5 Tryd.underlying9]
  have hl : (loadCells ⟨g, 0, none⟩ 1).run Tryd.prog w = .ok ([z].map (Value.int .u8)).toArray w := by
    have := run_loadCells_list (P := Tryd.prog) w ⟨g, 0, none⟩ [.int .u8 z] (fun j v hj => by
      match j, hj with
      | 0, hj => simp at hj; subst hj; simpa [Addr.add] using h)
    simpa using this
  rw [run_bytesToString _ _ _ _ _ hl]
  rfl
theorem byteKept {w w2 : World} {z : Int} (hb : Below (w.alloc (.cells #[.int .u8 z] 5)).drew.heap.size (w.alloc (.cells #[.int .u8 z] 5)).drew w2) : (convert 22 9 (.slice (some ⟨w.heap.size, 0, none⟩) 1 1)).run Tryd.prog w2 = .ok (.string ⟨#[UInt8.ofNat z.toNat]⟩) w2 :=
  byteAt w2 w.heap.size z ((hb.cell (p := ⟨w.heap.size, 0, none⟩) (by simp)).trans (by simp))
theorem byte1d (w : World) (z : Int) : (convert 22 9 (.slice (some ⟨w.heap.size, 0, none⟩) 1 1)).run Tryd.prog (w.alloc (.cells #[.int .u8 z] 5)).drew = .ok (.string ⟨#[UInt8.ofNat z.toNat]⟩) (w.alloc (.cells #[.int .u8 z] 5)).drew :=
  byteAt _ w.heap.size z (by simp)
theorem b1_size (z : UInt8) : (⟨#[z]⟩ : ByteArray).size = 1 := rfl
set_option maxRecDepth 100000 in
set_option maxHeartbeats 400000 in
theorem FormatInt_s0 (n : Int) (hn : I64 n) (h0 : 0 ≤ n) (w : World) : Calls Tryd.prog 72 #[.int .i64 n] w fun e w' => e = .returned (.string (fmtInt n)) ∧ Below w.heap.size w w' := by
  obtain ⟨hn1, hn2⟩ := hn.out
  have hfs := fmt_size ⟨hn1, hn2⟩
  go_enter Tryd.func72, Tryd.ntmps72
  go_wp2
  go_loopw [0, 3] (fun nv s wr => ∃ (m : Int) (t : ByteArray), nv = .int .i64 m ∧ s = .string t ∧ 0 ≤ m ∧ m ≤ 9223372036854775807 ∧ fmtInt n = fmtInt m ++ t ∧ t.size ≤ 20 ∧ Below w.heap.size w wr) (fun nv _ _ => (intOf nv).toNat)
  case atStart => exact ⟨n, ByteArray.empty, rfl, rfl, h0, hn2, by apply ba_ext; simp, by simp, Below.refl _ _⟩
  case round =>
    obtain ⟨m, t, rfl, rfl, hm0, hm1, hf, hts, hbel⟩ := hrel
    obtain ⟨wo, rfl⟩ : ∃ wo : World, wo = wr := ⟨_, rfl⟩
    have hts2 : t.size + (fmtInt m).size ≤ 20 := by rw [hf, ba_append_size] at hfs; omega
    have Hf := Lib.hid hf
    clear hf
    by_cases h9 : 9 < m
    · have hst := fmt_step h9
      have Hst := Lib.hid (show fmtInt n = fmtInt (m / 10) ++ (⟨#[UInt8.ofNat (48 + m % 10).toNat]⟩ ++ t) from by
        rw [Hf.out, hst]
        have e : 48 + (m % 10).toNat = (48 + m % 10).toNat := by omega
        rw [e]; apply ba_ext; simp [List.append_assoc])
      have hz := b1_size (UInt8.ofNat (48 + m % 10).toNat)
      have hsz : (⟨#[UInt8.ofNat (48 + m % 10).toNat]⟩ ++ t : ByteArray).size ≤ 20 := by
        have h1 := congrArg ByteArray.size hst
        rw [ba_append_size, b1_size] at h1
        rw [ba_append_size, b1_size]; omega
      have hc := byte1 wo (48 + m % 10)
      clear hst
      go_wp2
      go_roundw
      case rel => exact ⟨m / 10, _, by go_num, rfl, by omega, by omega, Hst.out, hsz, hbel.alloc hbel.size _⟩
      case measure => simp [intOf]; omega
    · have Hst := Lib.hid (show fmtInt n = ⟨#[UInt8.ofNat (48 + m).toNat]⟩ ++ t from by
        rw [Hf.out, fmt_digit hm0 (by omega)]
        have e : 48 + m.toNat = (48 + m).toNat := by omega
        rw [e])
      have hz := b1_size (UInt8.ofNat (48 + m).toNat)
      have hc := byte1 wo (48 + m)
      go_wp2
      go_ret
      exact ⟨retS1 Hst.out.symm, hbel.alloc hbel.size _⟩
set_option maxRecDepth 100000 in
set_option maxHeartbeats 400000 in
theorem FormatInt_sN (N : Nat) : ∀ (n : Int), I64 n → n < 0 → n.natAbs ≤ N → ∀ w : World, Calls Tryd.prog 72 #[.int .i64 n] w fun e w' => e = .returned (.string (fmtInt n)) ∧ Below w.heap.size w w' := by
  induction N with
  | zero => intro n _ h0 hN; omega
  | succ N ih =>
    intro n hn h0 hN w
    obtain ⟨hn1, hn2⟩ := hn.out
    by_cases h10 : -10 < n
    · have Hf := Lib.hid (show fmtInt n = ⟨#[45]⟩ ++ ⟨#[UInt8.ofNat (48 - n).toNat]⟩ from by
        rw [fmt_neg1 h0 h10]
        have e : 48 + (-n).toNat = (48 - n).toNat := by omega
        rw [e])
      have hq : (n.tdiv 10 == 0) = true := by
        rw [beq_iff_eq, tdiv10 (by omega)]; omega
      have hz := b1_size (UInt8.ofNat (48 - n).toNat)
      have hc := byte1 w (48 - n)
      go_enter Tryd.func72, Tryd.ntmps72
      go_wp2
      go_ret
      exact ⟨retS1 Hf.out.symm, Below.pureAlloc _ _⟩
    · have Hf := Lib.hid (show fmtInt n = fmtInt (n.tdiv 10) ++ ⟨#[UInt8.ofNat (48 - n.tmod 10).toNat]⟩ from by
        rw [fmt_neg (by omega)]
        have e : 48 + (-(n.tmod 10)).toNat = (48 - n.tmod 10).toNat := by
          have h1 := tmod10 n
          have h2 := tdiv10 (n := n) (by omega)
          omega
        rw [e])
      have hd := tdiv10 (n := n) (by omega)
      have hmo := tmod10 n
      have hq : (n.tdiv 10 == 0) = false := by
        rw [beq_eq_false_iff_ne]; omega
      have hm1 : 0 ≤ 48 - n.tmod 10 := by omega
      have hm2 : 48 - n.tmod 10 ≤ 255 := by omega
      have hm3 : -9 ≤ n.tmod 10 := by omega
      have hm4 : n.tmod 10 ≤ 0 := by omega
      have hIq : I64 (n.tdiv 10) := ⟨by omega, by omega⟩
      have hqn : n.tdiv 10 < 0 := by omega
      have hqN : (n.tdiv 10).natAbs ≤ N := by omega
      have hfs := fmt_size hIq.out
      have hw1 : IntKind.i64.wrap (n.tdiv 10) = n.tdiv 10 := by rw [IntKind.wrap_i64]; omega
      have hw2 : IntKind.i64.wrap (n.tmod 10) = n.tmod 10 := by rw [IntKind.wrap_i64]; omega
      have hw3 : IntKind.i64.wrap (48 - n.tmod 10) = 48 - n.tmod 10 := by rw [IntKind.wrap_i64]; omega
      have hw4 : IntKind.u8.wrap (48 - n.tmod 10) = 48 - n.tmod 10 := by rw [IntKind.wrap_u8]; omega
      have hz := b1_size (UInt8.ofNat (48 - n.tmod 10).toNat)
      have hc := byte1d w (48 - n.tmod 10)
      have IH := Lib.hid (ih (n.tdiv 10) hIq hqn hqN)
      clear ih hd hmo
      go_enter Tryd.func72, Tryd.ntmps72
      go_wp2
      go_region_with (go_at_call 72; refine (IH.out _).mono ?_; rintro e w2 ⟨rfl, hb2⟩; have hc2 := byte1 w2 (48 - n.tmod 10); first | (have hc3 := byteKept hb2) | skip)
      all_goals go_wp2
      all_goals go_ret
      all_goals refine ⟨retS1 Hf.out.symm, ?_⟩
      all_goals first
        | exact (below_undrew hb2).alloc (by have := hb2.size; exact this) _
        | exact (Below.pureAlloc w _).trans_pure (below_undrew hb2) (by simp)
        | exact below_undrew hb2
theorem FormatInt_s (n : Int) (hn : I64 n) (w : World) : Calls Tryd.prog 72 #[.int .i64 n] w fun e w' => e = .returned (.string (fmtInt n)) ∧ Below w.heap.size w w' := by
  rcases Int.lt_or_le n 0 with h | h
  · exact FormatInt_sN n.natAbs n hn h (Nat.le_refl _) w
  · exact FormatInt_s0 n hn h w
end Go.Proofs.YtekgnpdchpdfiaaDoor

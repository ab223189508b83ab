/- Contracts: texts: IndexByte, SplitAny, Join. -/
import Derived.Test.YtekgnpdchpdfiaaDoorC1
import Derived.Test.YtekgnpdchpdfiaaDoorText
import Derived.Lib.Strings
import Derived.Lib.Slices
import Derived.Lib.Walk
import Derived.Lib.Bytealg
namespace Go.Proofs.YtekgnpdchpdfiaaDoor
open Go.RowKit

theorem infoStr : (Tryd.prog.info? 9).map (fun i => (i.zero, i.size, i.bytes)) = some (some (.string ⟨#[]⟩), 1, 16) := by kernel_rfl

set_option maxHeartbeats 1000000 in
set_option maxRecDepth 100000 in
theorem idxByte_lite (s : ByteArray) (c : Int) (w : World) :
    Calls Tryd.prog 115 #[.string s, .int .u8 c] w fun e w' => e = .returned (.int .i64 (Lib.indexByte s.data.toList c.toNat.toUInt8)) ∧ w' = w := by
  go_enter Tryd.func115, Tryd.ntmps115
  go_wp2
  rw [run_callFunc_extern Tryd.func130 (by kernel_rfl) (by kernel_rfl) (by kernel_rfl) (e := Extern.BytealgIndexByte.indexByte) (by kernel_rfl), Lib.run_indexByteString]
  simp only [Result.andThen]
  rw [Oper.upon_value]
  go_wp2
  go_ret
  exact ⟨rfl, rfl⟩
theorem idxByte_c (s : ByteArray) (c : Int) (w : World) :
    Calls Tryd.prog 101 #[.string s, .int .u8 c] w fun e w' => e = .returned (.int .i64 (Lib.indexByte s.data.toList c.toNat.toUInt8)) ∧ w' = w := by
  go_enter Tryd.func101, Tryd.ntmps101
  go_wp2_with (go_at_call 115; refine (idxByte_lite _ _ _).mono ?_; rintro e w' ⟨rfl, rfl⟩)
  go_ret
  exact ⟨rfl, rfl⟩
theorem idxByte_hit {b c : UInt8} (h : c = b) (w : World) : Calls Tryd.prog 101 #[.string ⟨#[b]⟩, .int .u8 c.toNat] w fun e w' => e = .returned (.int .i64 0) ∧ w = w' :=
  (idxByte_c _ _ w).mono fun e w' ⟨h1, h2⟩ => ⟨by rw [h1]; subst h; simp [Lib.indexByte], h2.symm⟩
theorem idxByte_miss {b c : UInt8} (h : c ≠ b) (w : World) : Calls Tryd.prog 101 #[.string ⟨#[b]⟩, .int .u8 c.toNat] w fun e w' => e = .returned (.int .i64 (-1)) ∧ w = w' :=
  (idxByte_c _ _ w).mono fun e w' ⟨h1, h2⟩ => ⟨by rw [h1]; have h3 : (b == c) = false := by simpa using fun e => h e.symm
                                                  simp [Lib.indexByte, h3], h2.symm⟩

theorem splitSt_hit {s : ByteArray} {b : UInt8} {k : Nat} (h : s.data.toList[k]? = some b) : splitSt s b (k + 1) = ((splitSt s b k).1 ++ [s.extract (splitSt s b k).2 k], k + 1) := by
  conv => lhs; unfold splitSt
  rw [if_pos h]
theorem splitSt_miss {s : ByteArray} {b : UInt8} {k : Nat} (h : s.data.toList[k]? ≠ some b) : splitSt s b (k + 1) = splitSt s b k := by
  conv => lhs; unfold splitSt
  rw [if_neg h]

theorem strV_extract {s : ByteArray} (hs : s.size ≤ 1048576) (i j : Nat) : (s.extract i j).size ≤ 9223372036854775807 := by have := extract_size_le s i j; omega
set_option maxHeartbeats 400000 in
set_option maxRecDepth 100000 in
theorem SplitAny_i (s : ByteArray) (b : UInt8) (w : World) (hs : s.size ≤ 1048576) : Calls Tryd.prog 68 #[.string s, .string ⟨#[b]⟩] w (New 9 StrV w (splitB s b)) := by
  go_enter Tryd.func68, Tryd.ntmps68
  go_wp2
  go_loopw [5, 6, 7] (fun v st i wr => ∃ k p : Nat, k ≤ s.size ∧ i = .int .i64 k ∧ p = (splitSt s b k).2 ∧ p ≤ k ∧ st = .int .i64 p ∧ Own 9 StrV (Iv w.heap.size wr.heap.size) wr v (splitSt s b k).1 ∧ Below w.heap.size w wr) (fun _ _ i _ => s.size - (intOf i).toNat)
  case atStart => exact ⟨0, 0, Nat.zero_le _, rfl, rfl, Nat.le_refl _, rfl, Own.nil _ _ _ _, Below.refl _ _⟩
  case round =>
    obtain ⟨k, p, hk, rfl, hp, hpk, rfl, hown, hbel⟩ := hrel
    obtain ⟨wo, rfl⟩ : ∃ wo : World, wo = wr := ⟨_, rfl⟩
    have hBs := hbel.size
    have hsl := splitSt_len s b k
    have hkl : (splitSt s b k).1.length < 1099511627776 := by omega
    have Hp := Lib.hid hp
    obtain ⟨p1, p2, p3, rfl⟩ := hown.shape
    have Hown := Lib.hid hown
    clear hp hown
    by_cases hlt : k < s.size
    · have Hat := Lib.hid (ba_at hlt)
      by_cases hb : s[k] = b
      · have Hst := Lib.hid (splitSt_hit (s := s) (b := b) (k := k) (by rw [Hat.out, hb]))
        have Hb := Lib.hid hb
        have hx := strV_extract hs p k
        clear hb
        go_wp2_with (first | (go_at_call 101; refine (idxByte_hit Hb.out _).mono ?_; rintro e w' ⟨rfl, rfl⟩) | (at_builtin; (refine wpList_appR rfl _ _ 74 rfl rStrV 9 Tryd.underlying74 infoStr rfl (by decide) w.heap.size wo.heap.size hBs (Nat.le_refl _) rfl rfl (by exact Hown.out) (by exact ⟨rfl, hx⟩) hkl ?_); intro v2 w2 hown2 hbel2 _) | fail)
        have hb2 := hbel.trans hbel2
        have Hown2 := Lib.hid hown2
        clear hown2
        go_wp2
        go_roundw
        case rel => exact ⟨k + 1, k + 1, by omega, by go_num, by rw [Hst.out], Nat.le_refl _, by go_num, by rw [Hst.out, ← Hp.out]; exact Hown2.out, hb2⟩
        case measure => simp [intOf]; omega
      · have Hst := Lib.hid (splitSt_miss (s := s) (b := b) (k := k) (by rw [Hat.out]; simpa using hb))
        go_wp2_with (first | (go_at_call 101; refine (idxByte_miss hb _).mono ?_; rintro e w' ⟨rfl, rfl⟩) | fail)
        go_roundw
        case rel => exact ⟨k + 1, p, by omega, by go_num, by rw [Hst.out]; exact Hp.out, by omega, rfl, by rw [Hst.out]; exact Hown.out, hbel⟩
        case measure => simp [intOf]; omega
    · obtain rfl : k = s.size := by omega
      have hx := strV_extract hs p s.size
      go_wp2_with (first | (at_builtin; (refine wpList_appR rfl _ _ 74 rfl rStrV 9 Tryd.underlying74 infoStr rfl (by decide) w.heap.size wo.heap.size hBs (Nat.le_refl _) rfl rfl (by exact Hown.out) (by exact ⟨rfl, hx⟩) hkl ?_); intro v2 w2 hown2 hbel2 _) | fail)
      have hb2 := hbel.trans hbel2
      have Hown2 := Lib.hid hown2
      clear hown2
      go_wp2
      go_ret
      exact ⟨_, rfl, by unfold splitB; rw [← Hp.out]; exact Hown2.out, hb2⟩
set_option maxHeartbeats 400000 in
set_option maxRecDepth 100000 in
theorem SplitAny_s (s : ByteArray) (b : UInt8) (w : World) (hs : s.size ≤ 1048576) : Calls Tryd.prog 65 #[.string s, .string ⟨#[b]⟩] w (New 9 StrV w (splitB s b)) := by
  go_enter Tryd.func65, Tryd.ntmps65
  go_wp2
  go_loopw [5, 6, 7, 8] (fun v st i _ wr => ∃ k p : Nat, k ≤ s.size ∧ i = .int .i64 k ∧ p = (splitSt s b k).2 ∧ p ≤ k ∧ st = .int .i64 p ∧ Own 9 StrV (Iv w.heap.size wr.heap.size) wr v (splitSt s b k).1 ∧ Below w.heap.size w wr) (fun _ _ i _ _ => s.size - (intOf i).toNat)
  case atStart => exact ⟨0, 0, Nat.zero_le _, rfl, rfl, Nat.le_refl _, rfl, own_lit0 _ _ _ rStrV, Below.pureAlloc _ _⟩
  case round =>
    obtain ⟨k, p, hk, rfl, hp, hpk, rfl, hown, hbel⟩ := hrel
    obtain ⟨wo, rfl⟩ : ∃ wo : World, wo = wr := ⟨_, rfl⟩
    have hBs := hbel.size
    have hsl := splitSt_len s b k
    have hkl : (splitSt s b k).1.length < 1099511627776 := by omega
    have Hp := Lib.hid hp
    obtain ⟨p1, p2, p3, rfl⟩ := hown.shape
    have Hown := Lib.hid hown
    clear hp hown
    by_cases hlt : k < s.size
    · have Hat := Lib.hid (ba_at hlt)
      have hdk : decide ((k : Int) < (s.size : Int)) = true := by simp; omega
      go_wp2
      go_loopw [5, 6, 8] (fun v st j wr => ∃ n : Nat, v = .slice p1 p2 p3 ∧ st = .int .i64 p ∧ wr = wo.drewN n ∧ (j = .int .i64 0 ∨ (j = .int .i64 1 ∧ s[k] ≠ b))) (fun _ _ j _ => 1 - (intOf j).toNat)
      case atStart => exact ⟨0, rfl, rfl, rfl, .inl rfl⟩
      case round =>
        obtain ⟨n, rfl, rfl, rfl, hj⟩ := hrel
        have hbn := below_drewN (Below.refl wo.heap.size wo) n
        have Hown' := Lib.hid (show Own 9 StrV (Iv w.heap.size (wo.drewN n).heap.size) (wo.drewN n) (Value.slice p1 p2 p3) (splitSt s b k).1 from Hown.out)
        rcases hj with rfl | ⟨rfl, hne⟩
        · by_cases hb : s[k] = b
          · have Hst := Lib.hid (splitSt_hit (s := s) (b := b) (k := k) (by rw [Hat.out, hb]))
            have hx := strV_extract hs p k
            have heq : ((s[k].toNat : Int) == (((⟨#[b]⟩ : ByteArray)[0]'(Nat.zero_lt_one)).toNat : Int)) = true := by
              show ((s[k].toNat : Int) == (b.toNat : Int)) = true
              rw [hb]; simp
            clear hb
            go_wp2
            go_quiet (fail)
            have hbn2 := below_drewN (Below.refl wo.heap.size wo) (n + nq)
            have Hown2' := Lib.hid (show Own 9 StrV (Iv w.heap.size (wo.drewN (n + nq)).heap.size) (wo.drewN (n + nq)) (Value.slice p1 p2 p3) (splitSt s b k).1 from Hown.out)
            go_wp2_with (first | (at_builtin; (refine wpList_appR rfl _ _ 74 rfl rStrV 9 Tryd.underlying74 infoStr rfl (by decide) w.heap.size wo.heap.size hBs (show wo.heap.size ≤ (wo.drewN (n + nq)).heap.size from Nat.le_refl _) rfl rfl (by exact Hown2'.out) (by exact ⟨rfl, hx⟩) hkl ?_); intro v2 w2 hown2 hbel2 _) | fail)
            have hb2 := (hbel.trans (hbn2.mono hBs)).trans hbel2
            have Hown2 := Lib.hid hown2
            clear hown2
            go_wp2
            go_roundw
            case rel => exact ⟨k + 1, k + 1, by omega, by go_num, by rw [Hst.out], Nat.le_refl _, by go_num, by rw [Hst.out, ← Hp.out]; exact Hown2.out, hb2⟩
            case measure => simp [intOf]; omega
          · have Hst := Lib.hid (splitSt_miss (s := s) (b := b) (k := k) (by rw [Hat.out]; simpa using hb))
            have heq : ((s[k].toNat : Int) == (((⟨#[b]⟩ : ByteArray)[0]'(Nat.zero_lt_one)).toNat : Int)) = false := by
              show ((s[k].toNat : Int) == (b.toNat : Int)) = false
              rw [beq_eq_false_iff_ne]; intro h; exact hb (UInt8.toNat_inj.1 (by omega))
            go_wp2
            go_quiet (fail)
            go_wp2
            go_roundw
            case rel => exact ⟨_, rfl, rfl, rfl, .inr ⟨by go_num, hb⟩⟩
            case measure => simp [intOf]
        · have Hst := Lib.hid (splitSt_miss (s := s) (b := b) (k := k) (by rw [Hat.out]; simpa using hne))
          clear hne
          go_wp2
          go_roundw
          case rel => exact ⟨k + 1, p, by omega, by go_num, by rw [Hst.out]; exact Hp.out, by omega, rfl, by rw [Hst.out]; exact Hown'.out, hbel.trans (hbn.mono hBs)⟩
          case measure => simp [intOf]; omega
    · obtain rfl : k = s.size := by omega
      have hx := strV_extract hs p s.size
      go_wp2_with (first | (at_builtin; (refine wpList_appR rfl _ _ 74 rfl rStrV 9 Tryd.underlying74 infoStr rfl (by decide) w.heap.size wo.heap.size hBs (Nat.le_refl _) rfl rfl (by exact Hown.out) (by exact ⟨rfl, hx⟩) hkl ?_); intro v2 w2 hown2 hbel2 _) | fail)
      have hb2 := hbel.trans hbel2
      have Hown2 := Lib.hid hown2
      clear hown2
      go_wp2
      go_ret
      exact ⟨_, rfl, by unfold splitB; rw [← Hp.out]; exact Hown2.out, hb2⟩
end Go.Proofs.YtekgnpdchpdfiaaDoor

/- Contracts: SwitchesOf. -/
import Derived.Test.YtliejhmlcdjpcaaSw1
import Derived.Test.YtliejhmlcdjpcaaSw2
import Derived.Test.YtliejhmlcdjpcaaSwL
namespace Go.Proofs.Ytliejhmlcdjpcaa
open Go.RowKit

theorem infoSw : (Try.prog.info? 64).map (fun i => (i.zero, i.size, i.bytes)) = some (some (.agg #[.int .i64 0, .int .i64 0, .int .i64 0, .int .i64 0]), 4, 32) := by kernel_rfl

structure SwSt (n : Nat) (w wr : World) (out : Value) (l : List Sw) (N : Nat) : Prop where
  own : OwnSw n wr out l
  bel : Below n w wr
  len : l.length ≤ N
theorem SwSt.le {n N N' : Nat} {w wr : World} {out : Value} {l : List Sw} (h : SwSt n w wr out l N) (hn : N ≤ N') : SwSt n w wr out l N' := ⟨h.own, h.bel, Nat.le_trans h.len hn⟩
theorem SwSt.keep {n N : Nat} {w wr wr' : World} {out : Value} {l : List Sw} (h : SwSt n w wr out l N) (hb : Below wr.heap.size wr wr') (hn : n ≤ w.heap.size) : SwSt n w wr' out l N := ⟨h.own.keep hb, h.bel.trans_pure hb hn, h.len⟩

set_option maxRecDepth 20000 in
set_option maxHeartbeats 2000000 in
theorem SwitchesOf_i (v : Value) (m : List (List Int)) (r c : Nat) (w : World) (hv : Grid w v m) (hs : Shape r c m) (hr1 : 1 ≤ r) (hr5 : r ≤ 5) (hc1 : 1 ≤ c) (hc5 : c ≤ 5) : Calls Try.prog 37 #[v] w fun e w' => ∃ v', e = .returned v' ∧ OwnSw w.heap.size w' v' (switchesOf r c m) ∧ Below w.heap.size w w' := by
  obtain ⟨b, off, cp, rfl, hb, hcl⟩ := hv.cells hs hr1 hc1
  have Hv := Lib.hid hv
  have Hok := Lib.hid (hs.ok hr1 hr5 hc1 hc5)
  obtain ⟨b0, o0, c0, hc0, hb0, -⟩ := hcl 0 (by omega)
  rw [Nat.add_zero] at hc0
  clear hcl
  have St := Lib.hid (SwSt.mk (n := w.heap.size) (N := 0) (OwnSw.nil w.heap.size w) (Below.refl _ _) (Nat.le_refl _))
  go_enter Try.func37, Try.ntmps37
  go_wp2_with (fail)
  refine (ImageOk_i _ _ _ Hv.out).mono ?_
  rintro e w' ⟨rfl, rfl⟩
  rw [Hok.out]
  go_wp2
  go_loopw [3, 4, 5, 6, 7, 8, 14] (fun out _ _ _ _ _ i wr => ∃ a : Nat, a ≤ r ∧ i = .int .i64 a ∧ Hid (SwSt w.heap.size w wr out (sw1 r c m a) (125 * a))) (fun _ _ _ _ _ _ i _ => r - (intOf i).toNat)
  case atStart => exact ⟨0, Nat.zero_le _, rfl, St⟩
  case round =>
    clear St
    obtain ⟨a, ha, rfl, St⟩ := hrel
    by_cases hlt : a < r
    · go_wp2
      go_loopw [3, 5, 6, 7, 8] (fun out i _ _ _ wr => ∃ b : Nat, b ≤ r ∧ a + 1 ≤ b ∧ i = .int .i64 b ∧ Hid (SwSt w.heap.size w wr out (sw1 r c m a ++ sw2 r c m a b) (125 * a + 25 * b))) (fun _ i _ _ _ _ => r - (intOf i).toNat)
      case atStart => exact ⟨a + 1, hlt, Nat.le_refl _, by go_num, Lib.hid (by rw [sw2_zero, List.append_nil]; exact St.out.le (by omega))⟩
      case round =>
        clear St
        obtain ⟨b', hb', hab, rfl, St⟩ := hrel
        by_cases hlt2 : b' < r
        · have h0 := (St.out.bel.cell (p := ⟨b, off, none⟩) hb).trans hc0
          go_wp2
          clear h0
          go_loopw [3, 6, 7, 8, 29] (fun out _ _ _ i wr => ∃ x : Nat, x ≤ c ∧ i = .int .i64 x ∧ Hid (SwSt w.heap.size w wr out (sw1 r c m a ++ sw2 r c m a b' ++ sw3 r c m a b' x) (125 * a + 25 * b' + 5 * x))) (fun _ _ _ _ i _ => c - (intOf i).toNat)
          case atStart => exact ⟨0, Nat.zero_le _, rfl, Lib.hid (by rw [sw3_zero, List.append_nil]; exact St.out.le (by omega))⟩
          case round =>
            clear St
            obtain ⟨x, hx, rfl, St⟩ := hrel
            by_cases hlt3 : x < c
            · go_wp2
              go_loopw [3, 7, 8] (fun out i _ wr => ∃ y : Nat, y ≤ c ∧ x + 1 ≤ y ∧ i = .int .i64 y ∧ Hid (SwSt w.heap.size w wr out (sw1 r c m a ++ sw2 r c m a b' ++ sw3 r c m a b' x ++ sw4 r c m a b' x y) (125 * a + 25 * b' + 5 * x + y))) (fun _ i _ _ => c - (intOf i).toNat)
              case atStart => exact ⟨x + 1, hlt3, Nat.le_refl _, by go_num, Lib.hid (by rw [sw4_zero, List.append_nil]; exact St.out.le (by omega))⟩
              case round =>
                clear St
                obtain ⟨y, hy, hxy, rfl, St⟩ := hrel
                have h0 := (St.out.bel.cell (p := ⟨b, off, none⟩) hb).trans hc0
                by_cases hlt4 : y < c
                · have hbs := St.out.bel.size
                  have Hk := Lib.hid (Blk.new wr (swC (a, b', x, y)).toArray 64)
                  have Hbel1 := Lib.hid (Below.pureAlloc wr (.cells (swC (a, b', x, y)).toArray 64))
                  go_wp2_with (fail)
                  refine (SwitchOk_i _ m r c a b' x y _ ((Hv.out.keep St.out.bel).keep Hbel1.out) hs hr1 hr5 hc1 hc5).mono ?_
                  rintro e w2 ⟨rfl, hb2⟩
                  have hb12 : Below wr.heap.size wr w2 := Hbel1.out.trans_pure hb2 (Nat.le_refl _)
                  have Hk2 := Lib.hid (Hk.out.keep hb2)
                  have St2 := Lib.hid (St.out.keep hb12 (Nat.le_refl _))
                  have k0 : w2.cell? ⟨wr.heap.size, 0, none⟩ = some (.int .i64 a) := Hk2.out.cell 0
                  have k1 : w2.cell? ⟨wr.heap.size, 1, none⟩ = some (.int .i64 b') := Hk2.out.cell 1
                  have k2 : w2.cell? ⟨wr.heap.size, 2, none⟩ = some (.int .i64 x) := Hk2.out.cell 2
                  have k3 : w2.cell? ⟨wr.heap.size, 3, none⟩ = some (.int .i64 y) := Hk2.out.cell 3
                  have hsw : swOkB r c m a b' x y = decide (SwOk r c m (a, b', x, y)) := swOkB_nat (s := (a, b', x, y))
                  rw [hsw]
                  clear hsw Hk Hk2
                  by_cases hok : SwOk r c m (a, b', x, y)
                  · rw [decide_eq_true hok]
                    have Hst := Lib.hid (show sw4 r c m a b' x (y + 1) = sw4 r c m a b' x y ++ [(a, b', x, y)] from by rw [sw4_succ, if_pos hok])
                    clear hok
                    have Hbel3 := Lib.hid (Below.pureAlloc w2 (.cells (swC (a, b', x, y)).toArray 64))
                    have Hk3 := Lib.hid (Blk.new w2 (swC (a, b', x, y)).toArray 64)
                    have St3 := Lib.hid (St2.out.keep Hbel3.out (Nat.le_refl _))
                    obtain ⟨l, hl⟩ : ∃ l, l = sw1 r c m a ++ sw2 r c m a b' ++ sw3 r c m a b' x ++ sw4 r c m a b' x y := ⟨_, rfl⟩
                    rw [← hl] at St3
                    have Hl := Lib.hid hl
                    clear hl St2
                    obtain ⟨ao, co, rfl⟩ := St3.out.own.shape
                    have hlen := Nat.lt_of_le_of_lt St3.out.len (show _ < 1073741824 from by omega)
                    have hsz3 := St3.out.bel.size
                    go_wp2_with (at_builtin; (refine wpList_appSw (w := w2.alloc (.cells (swC (a, b', x, y)).toArray 64)) (v := .slice ao l.length co) (l := l) (gb := w2.heap.size) (c := 1) rfl _ _ 54 rfl Try.underlying54 infoSw rfl (by decide) w.heap.size (a, b', x, y) rfl rfl (by exact Hk3.out) (by exact St3.out.own) hlen (by exact hsz3) ?_); intro v4 w4 o4 b4)
                    have St4 := Lib.hid (SwSt.mk (w := w) o4 (St3.out.bel.trans (b4.below hsz3 fun g hg => (St3.out.own.lt g hg).1)) (by rw [List.length_append]; exact Nat.succ_le_succ St3.out.len))
                    refine ⟨⟨y + 1, by omega, by omega, by go_num, Lib.hid ?_⟩, by simp [intOf]; omega⟩
                    rw [Hst.out, ← List.append_assoc, ← Hl.out]
                    exact St4.out
                  · rw [decide_eq_false hok]
                    have Hst := Lib.hid (show sw4 r c m a b' x (y + 1) = sw4 r c m a b' x y from by rw [sw4_succ, if_neg hok, List.append_nil])
                    clear hok
                    go_wp2
                    go_roundw
                    case rel => exact ⟨y + 1, by omega, by omega, by go_num, Lib.hid (by rw [Hst.out]; exact St2.out.le (by omega))⟩
                    case measure => simp [intOf]; omega
                · go_wp2
                  go_roundw
                  case rel => exact ⟨x + 1, by omega, by go_num, Lib.hid (by rw [sw3_succ, ← List.append_assoc]; obtain rfl : y = c := (by omega); exact St.out.le (by omega))⟩
                  case measure => simp [intOf]; omega
            · go_wp2
              go_roundw
              case rel => exact ⟨b' + 1, by omega, by omega, by go_num, Lib.hid (by rw [sw2_succ, ← List.append_assoc]; obtain rfl : x = c := (by omega); exact St.out.le (by omega))⟩
              case measure => simp [intOf]; omega
        · go_wp2
          go_roundw
          case rel => exact ⟨a + 1, by omega, by go_num, Lib.hid (by rw [sw1_succ]; obtain rfl : b' = r := (by omega); exact St.out.le (by omega))⟩
          case measure => simp [intOf]; omega
    · obtain ⟨ao, co, rfl⟩ := St.out.own.shape
      go_wp2
      go_ret
      obtain rfl : a = r := by omega
      exact ⟨_, rfl, by rw [← sw1_all]; exact St.out.own, St.out.bel⟩
set_option maxRecDepth 20000 in
set_option maxHeartbeats 2000000 in
theorem SwitchesOf_s (v : Value) (m : List (List Int)) (r c : Nat) (w : World) (hv : Grid w v m) (hs : Shape r c m) (hr1 : 1 ≤ r) (hr5 : r ≤ 5) (hc1 : 1 ≤ c) (hc5 : c ≤ 5) : Calls Try.prog 48 #[v] w fun e w' => ∃ v', e = .returned v' ∧ OwnSw w.heap.size w' v' (switchesOf r c m) ∧ Below w.heap.size w w' := by
  obtain ⟨b, off, cp, rfl, hb, hcl⟩ := hv.cells hs hr1 hc1
  have Hv := Lib.hid hv
  have Hok := Lib.hid (hs.ok hr1 hr5 hc1 hc5)
  obtain ⟨b0, o0, c0, hc0, hb0, -⟩ := hcl 0 (by omega)
  rw [Nat.add_zero] at hc0
  clear hcl
  have St := Lib.hid (SwSt.mk (n := w.heap.size) (w := w) (N := 0) (OwnSw.lit0 w w.heap.size (Nat.le_refl _)) (Below.pureAlloc w _) (Nat.le_refl _))
  go_enter Try.func48, Try.ntmps48
  go_wp2_with (fail)
  refine (ImageOk_s _ _ _ Hv.out).mono ?_
  rintro e w' ⟨rfl, rfl⟩
  rw [Hok.out]
  go_wp2
  go_loopw [3, 4, 5, 6, 7, 8, 15] (fun out _ _ _ _ _ i wr => ∃ a : Nat, a ≤ r ∧ i = .int .i64 a ∧ Hid (SwSt w.heap.size w wr out (sw1 r c m a) (125 * a))) (fun _ _ _ _ _ _ i _ => r - (intOf i).toNat)
  case atStart => exact ⟨0, Nat.zero_le _, rfl, St⟩
  case round =>
    clear St
    obtain ⟨a, ha, rfl, St⟩ := hrel
    by_cases hlt : a < r
    · go_wp2
      go_loopw [3, 5, 6, 7, 8] (fun out i _ _ _ wr => ∃ b : Nat, b ≤ r ∧ a + 1 ≤ b ∧ i = .int .i64 b ∧ Hid (SwSt w.heap.size w wr out (sw1 r c m a ++ sw2 r c m a b) (125 * a + 25 * b))) (fun _ i _ _ _ _ => r - (intOf i).toNat)
      case atStart => exact ⟨a + 1, hlt, Nat.le_refl _, by go_num, Lib.hid (by rw [sw2_zero, List.append_nil]; exact St.out.le (by omega))⟩
      case round =>
        clear St
        obtain ⟨b', hb', hab, rfl, St⟩ := hrel
        by_cases hlt2 : b' < r
        · have h0 := (St.out.bel.cell (p := ⟨b, off, none⟩) hb).trans hc0
          go_wp2
          clear h0
          go_loopw [3, 6, 7, 8, 30] (fun out _ _ _ i wr => ∃ x : Nat, x ≤ c ∧ i = .int .i64 x ∧ Hid (SwSt w.heap.size w wr out (sw1 r c m a ++ sw2 r c m a b' ++ sw3 r c m a b' x) (125 * a + 25 * b' + 5 * x))) (fun _ _ _ _ i _ => c - (intOf i).toNat)
          case atStart => exact ⟨0, Nat.zero_le _, rfl, Lib.hid (by rw [sw3_zero, List.append_nil]; exact St.out.le (by omega))⟩
          case round =>
            clear St
            obtain ⟨x, hx, rfl, St⟩ := hrel
            by_cases hlt3 : x < c
            · go_wp2
              go_loopw [3, 7, 8] (fun out i _ wr => ∃ y : Nat, y ≤ c ∧ x + 1 ≤ y ∧ i = .int .i64 y ∧ Hid (SwSt w.heap.size w wr out (sw1 r c m a ++ sw2 r c m a b' ++ sw3 r c m a b' x ++ sw4 r c m a b' x y) (125 * a + 25 * b' + 5 * x + y))) (fun _ i _ _ => c - (intOf i).toNat)
              case atStart => exact ⟨x + 1, hlt3, Nat.le_refl _, by go_num, Lib.hid (by rw [sw4_zero, List.append_nil]; exact St.out.le (by omega))⟩
              case round =>
                clear St
                obtain ⟨y, hy, hxy, rfl, St⟩ := hrel
                have h0 := (St.out.bel.cell (p := ⟨b, off, none⟩) hb).trans hc0
                by_cases hlt4 : y < c
                · have hbs := St.out.bel.size
                  have Hk := Lib.hid (Blk.new wr (swC (a, b', x, y)).toArray 64)
                  have Hbel1 := Lib.hid (Below.pureAlloc wr (.cells (swC (a, b', x, y)).toArray 64))
                  go_wp2_with (fail)
                  refine (SwitchOk_s _ m r c a b' x y _ ((Hv.out.keep St.out.bel).keep Hbel1.out) hs hr1 hr5 hc1 hc5).mono ?_
                  rintro e w2 ⟨rfl, hb2⟩
                  have hb12 : Below wr.heap.size wr w2 := Hbel1.out.trans_pure hb2 (Nat.le_refl _)
                  have Hk2 := Lib.hid (Hk.out.keep hb2)
                  have St2 := Lib.hid (St.out.keep hb12 (Nat.le_refl _))
                  have k0 : w2.cell? ⟨wr.heap.size, 0, none⟩ = some (.int .i64 a) := Hk2.out.cell 0
                  have k1 : w2.cell? ⟨wr.heap.size, 1, none⟩ = some (.int .i64 b') := Hk2.out.cell 1
                  have k2 : w2.cell? ⟨wr.heap.size, 2, none⟩ = some (.int .i64 x) := Hk2.out.cell 2
                  have k3 : w2.cell? ⟨wr.heap.size, 3, none⟩ = some (.int .i64 y) := Hk2.out.cell 3
                  have hsw : swOkB r c m a b' x y = decide (SwOk r c m (a, b', x, y)) := swOkB_nat (s := (a, b', x, y))
                  rw [hsw]
                  clear hsw Hk Hk2
                  by_cases hok : SwOk r c m (a, b', x, y)
                  · rw [decide_eq_true hok]
                    have Hst := Lib.hid (show sw4 r c m a b' x (y + 1) = sw4 r c m a b' x y ++ [(a, b', x, y)] from by rw [sw4_succ, if_pos hok])
                    clear hok
                    have Hbel3 := Lib.hid (Below.pureAlloc w2 (.cells (swC (a, b', x, y)).toArray 64))
                    have Hk3 := Lib.hid (Blk.new w2 (swC (a, b', x, y)).toArray 64)
                    have St3 := Lib.hid (St2.out.keep Hbel3.out (Nat.le_refl _))
                    obtain ⟨l, hl⟩ : ∃ l, l = sw1 r c m a ++ sw2 r c m a b' ++ sw3 r c m a b' x ++ sw4 r c m a b' x y := ⟨_, rfl⟩
                    rw [← hl] at St3
                    have Hl := Lib.hid hl
                    clear hl St2
                    obtain ⟨ao, co, rfl⟩ := St3.out.own.shape
                    have hlen := Nat.lt_of_le_of_lt St3.out.len (show _ < 1073741824 from by omega)
                    have hsz3 := St3.out.bel.size
                    go_wp2_with (at_builtin; (refine wpList_appSw (w := w2.alloc (.cells (swC (a, b', x, y)).toArray 64)) (v := .slice ao l.length co) (l := l) (gb := w2.heap.size) (c := 1) rfl _ _ 54 rfl Try.underlying54 infoSw rfl (by decide) w.heap.size (a, b', x, y) rfl rfl (by exact Hk3.out) (by exact St3.out.own) hlen (by exact hsz3) ?_); intro v4 w4 o4 b4)
                    have St4 := Lib.hid (SwSt.mk (w := w) o4 (St3.out.bel.trans (b4.below hsz3 fun g hg => (St3.out.own.lt g hg).1)) (by rw [List.length_append]; exact Nat.succ_le_succ St3.out.len))
                    refine ⟨⟨y + 1, by omega, by omega, by go_num, Lib.hid ?_⟩, by simp [intOf]; omega⟩
                    rw [Hst.out, ← List.append_assoc, ← Hl.out]
                    exact St4.out
                  · rw [decide_eq_false hok]
                    have Hst := Lib.hid (show sw4 r c m a b' x (y + 1) = sw4 r c m a b' x y from by rw [sw4_succ, if_neg hok, List.append_nil])
                    clear hok
                    go_wp2
                    go_roundw
                    case rel => exact ⟨y + 1, by omega, by omega, by go_num, Lib.hid (by rw [Hst.out]; exact St2.out.le (by omega))⟩
                    case measure => simp [intOf]; omega
                · go_wp2
                  go_roundw
                  case rel => exact ⟨x + 1, by omega, by go_num, Lib.hid (by rw [sw3_succ, ← List.append_assoc]; obtain rfl : y = c := (by omega); exact St.out.le (by omega))⟩
                  case measure => simp [intOf]; omega
            · go_wp2
              go_roundw
              case rel => exact ⟨b' + 1, by omega, by omega, by go_num, Lib.hid (by rw [sw2_succ, ← List.append_assoc]; obtain rfl : x = c := (by omega); exact St.out.le (by omega))⟩
              case measure => simp [intOf]; omega
        · go_wp2
          go_roundw
          case rel => exact ⟨a + 1, by omega, by go_num, Lib.hid (by rw [sw1_succ]; obtain rfl : b' = r := (by omega); exact St.out.le (by omega))⟩
          case measure => simp [intOf]; omega
    · obtain ⟨ao, co, rfl⟩ := St.out.own.shape
      go_wp2
      go_ret
      obtain rfl : a = r := by omega
      exact ⟨_, rfl, by rw [← sw1_all]; exact St.out.own, St.out.bel⟩
end Go.Proofs.Ytliejhmlcdjpcaa

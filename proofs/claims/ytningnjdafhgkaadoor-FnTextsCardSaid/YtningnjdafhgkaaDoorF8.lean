/- Contracts: numbers out of texts: ParseInt of the reference. Contracts: sums out of texts: ParseInt of the program, ParseSums. Contracts: sums out of texts: ParseSums. -/
import Derived.Test.YtningnjdafhgkaaDoorT1
import Derived.Test.YtningnjdafhgkaaDoorF4
import Derived.Test.YtningnjdafhgkaaDoorT4
import Derived.Lib.AtoiErrMem
namespace Go.Proofs.YtningnjdafhgkaaDoor
open Go.RowKit

theorem all_take_stepU (p : UInt8 → Bool) {l : List UInt8} {k : Nat} {x : UInt8} (h : l[k]? = some x) : (l.take (k + 1)).all p = ((l.take k).all p && p x) := by
  rw [List.take_add_one, h, List.all_append]; simp
def digitsB (s : ByteArray) : Bool := s.data.toList.all digB && decide (0 < s.size)
set_option maxHeartbeats 400000 in
theorem IsDigits_s (s : ByteArray) (w : World) (hs : s.size ≤ 1048576) : Calls Tryd.prog 30 #[.string s] w fun e w' => e = .returned (.bool (digitsB s)) ∧ w = w' := by
  go_enter Tryd.func30, Tryd.ntmps30
  go_wp2
  go_loop [3] (fun i => ∃ k : Nat, k ≤ s.size ∧ i = .int .i64 k ∧ (s.data.toList.take k).all digB = true) (fun i => s.size - (intOf i).toNat)
  case atStart => exact ⟨0, Nat.zero_le _, rfl, rfl⟩
  case round =>
    obtain ⟨k, hk, rfl, hall⟩ := hrel
    have Hall := Lib.hid hall; clear hall
    by_cases hlt : k < s.size
    · have hat := ba_at hlt
      have Has := Lib.hid (all_take_stepU digB hat)
      have Hat := Lib.hid hat
      clear hat
      have Hbad := Lib.hid (show digB s[k] = false → digitsB s = false from fun h => by
        unfold digitsB
        rw [Bool.and_eq_false_iff]; left
        rw [List.all_eq_false]; exact ⟨s[k], List.mem_of_getElem? Hat.out, by simp [h]⟩)
      by_cases h1 : s[k].toNat < 48
      · have Hr := Lib.hid (Hbad.out (by simp [digB]; omega))
        have hd : decide (((s[k]).toNat : Int) < 48) = true := by simp; omega
        go_wp2
        go_ret
        exact ⟨retB Hr.out.symm, rfl⟩
      · have hd : decide (((s[k]).toNat : Int) < 48) = false := by simp; omega
        by_cases h2 : 57 < s[k].toNat
        · have Hr := Lib.hid (Hbad.out (by simp [digB]; omega))
          have hd2 : decide ((57 : Int) < ((s[k]).toNat : Int)) = true := by simp; omega
          go_wp2
          go_ret
          exact ⟨retB Hr.out.symm, rfl⟩
        · have Hg := Lib.hid (show digB s[k] = true from by simp [digB]; omega)
          have hd2 : decide ((57 : Int) < ((s[k]).toNat : Int)) = false := by simp; omega
          go_wp2
          go_round
          case rel => exact ⟨k + 1, by omega, by go_num, by rw [Has.out, Hall.out, Hg.out]; rfl⟩
          case measure => simp [intOf]; omega
    · have Hr := Lib.hid (show digitsB s = decide (0 < s.size) from by
        have h := Hall.out
        rw [List.take_of_length_le (by rw [← ba_size]; omega)] at h
        unfold digitsB; rw [h]; simp)
      go_wp2
      go_ret
      exact ⟨retB Hr.out.symm, rfl⟩
theorem ba_neq' {a b : ByteArray} (h : a ≠ b) : (a.toList == b.toList) = false := by
  rw [beq_eq_false_iff_ne]; exact fun e => h (ba_ext (by rw [ByteArray.toList_eq, ByteArray.toList_eq] at e; exact e))
/-- a minus sign at the head -/
def negB (s : ByteArray) : Bool := s.data.toList.head? == some 45
def bodyB (s : ByteArray) : ByteArray := if negB s then s.extract 1 s.size else s
theorem num_facts {s : ByteArray} {n : Int} (h : parseI s = some n) : IsNum s n ∧ (negB s = true ↔ n < 0) ∧ decV (bodyB s).data.toList = n.natAbs ∧ (bodyB s).data.toList.all digB = true ∧ 0 < (bodyB s).size ∧ (bodyB s).size ≤ 19 := by
  have k := parseI_num h
  refine ⟨k, ?_⟩
  rcases Int.lt_or_le n 0 with h0 | h0
  · obtain ⟨l, hl, a, b, c, d⟩ := k.neg h0
    have hn : negB s = true := by unfold negB; rw [hl]; rfl
    have hb : (bodyB s).data.toList = l := by
      unfold bodyB
      rw [if_pos hn, ba_extract, hl, ba_size, hl]
      simp
    rw [ba_size, hb]
    exact ⟨⟨fun _ => h0, fun _ => hn⟩, a, b, c, d⟩
  · obtain ⟨a, b, c, d⟩ := k.pos h0
    have hn : negB s = false := by
      unfold negB
      cases hl : s.data.toList with
      | nil => rfl
      | cons x l =>
        rw [hl] at b
        rw [List.all_cons, Bool.and_eq_true] at b
        have := digB_iff.1 b.1
        rw [List.head?_cons, beq_eq_false_iff_ne]
        intro e
        injection e with e
        subst e
        simp at this
    have hb : bodyB s = s := by unfold bodyB; rw [hn]; rfl
    rw [hb]
    exact ⟨⟨fun h => absurd (hn.symm.trans h) (by decide), fun h => absurd h (by omega)⟩, a, b, c, d⟩
theorem parse_none_of {s : ByteArray} (h : ∀ n, parseI s = some n → False) : parseI s = none := by
  cases hp : parseI s with
  | none => rfl
  | some n => exact (h n hp).elim
noncomputable def parseVal (s : ByteArray) : Int := (parseI s).getD 0
noncomputable def parseYes (s : ByteArray) : Bool := (parseI s).isSome
theorem parse_no {s : ByteArray} (h : parseI s = none) : parseVal s = 0 ∧ parseYes s = false := by unfold parseVal parseYes; rw [h]; exact ⟨rfl, rfl⟩
theorem parse_yes {s : ByteArray} {n : Int} (h : parseI s = some n) : parseVal s = n ∧ parseYes s = true := by unfold parseVal parseYes; rw [h]; exact ⟨rfl, rfl⟩
def PNum (w : World) (s : ByteArray) (e : Ending) (w' : World) : Prop := e = .returned (.tuple #[.int .i64 (parseVal s), .bool (parseYes s)]) ∧ Below w.heap.size w w'
theorem decV_over {t : ByteArray} {k : Nat} {c : UInt8} (h : t.data.toList[k]? = some c) : decV (t.data.toList.take k) * 10 + (c.toNat - 48) ≤ decV t.data.toList := by
  rw [← decV_take h]; exact decV_take_le _ _
set_option maxRecDepth 100000 in
set_option maxHeartbeats 1600000 in
theorem ParseInt_s (s : ByteArray) (w : World) (hs : s.size ≤ 1048576) : Calls Tryd.prog 19 #[.string s] w (PNum w s) := by
  have hfacts := fun n (h : parseI s = some n) => num_facts h
  have HF := Lib.hid hfacts
  clear hfacts
  have Hno := Lib.hid (fun h => parse_no (s := s) h)
  by_cases hs0 : s.size = 0
  · have hs00 : s = ByteArray.empty := by apply ba_ext; have h := ba_size s; rw [hs0] at h; exact List.eq_nil_of_length_eq_zero h.symm
    subst hs00
    have hp := parse_none_of (s := ByteArray.empty) (fun n h => by
      obtain ⟨-, -, -, -, b, -⟩ := HF.out n h
      simp [bodyB, negB] at b)
    obtain ⟨r1, r2⟩ := Hno.out hp
    have Hr := Lib.hid (show PNum w ByteArray.empty (.returned (.tuple #[.int .i64 0, .bool false])) w from ⟨by rw [r1, r2], Below.refl _ _⟩)
    clear r1 r2
    go_enter Tryd.func19, Tryd.ntmps19
    go_wp2_with (fail)
    refine (IsDigits_s _ _ hs).mono ?_
    rintro e w' ⟨rfl, rfl⟩
    rw [show digitsB ByteArray.empty = false from by simp [digitsB]]
    go_wp2
    refine bodyPost_ret (v := .tuple #[.int .i64 0, .bool false]) (by simp [results, Tryd.results19, go_sem]) rfl Hr.out
  have hpos : 0 < s.size := by omega
  have hat0 := ba_at hpos
  have hhd : s.data.toList.head? = some s[0] := by rw [← List.head?_eq_getElem?] at hat0; exact hat0
  have hdz : decide ((0 : Int) < (s.size : Int)) = true := by simp; omega
  cases hn : negB s
  · have h45 : s[0] ≠ 45 := by
      intro e
      unfold negB at hn
      rw [hhd, e] at hn; simp at hn
    have heq : ((s[0].toNat : Int) == 45) = false := by rw [beq_eq_false_iff_ne]; intro e; exact h45 (UInt8.toNat_inj.1 (by have : (45 : UInt8).toNat = 45 := rfl; omega))
    have hb : bodyB s = s := by unfold bodyB; rw [hn]; rfl
    rw [hb] at HF
    have HTs := hs
    have Hn := Lib.hid hn
    clear hb hn h45 hhd hat0 hs0
    cases hd : digitsB s
    · have hp := parse_none_of (s := s) (fun n h => by
        obtain ⟨-, -, -, a, b, -⟩ := HF.out n h
        unfold digitsB at hd
        rw [a, Bool.true_and, decide_eq_false_iff_not] at hd; exact hd b)
      have Hd := Lib.hid hd
      obtain ⟨r1, r2⟩ := Hno.out hp
      have Hr := Lib.hid (show PNum w s (.returned (.tuple #[.int .i64 0, .bool false])) w from ⟨by rw [r1, r2], Below.refl _ _⟩)
      clear r1 r2 hd
      go_enter Tryd.func19, Tryd.ntmps19
      go_wp2_with (fail)
      refine (IsDigits_s _ _ HTs).mono ?_
      rintro e w' ⟨rfl, rfl⟩
      rw [Hd.out]
      go_wp2
      refine bodyPost_ret (v := .tuple #[.int .i64 0, .bool false]) (by simp [results, Tryd.results19, go_sem]) rfl Hr.out
    have Hd := Lib.hid hd
    unfold digitsB at hd
    rw [Bool.and_eq_true] at hd
    have Hdg := Lib.hid hd.1
    clear hd
    by_cases h19 : 19 < s.size
    · have hp := parse_none_of (s := s) (fun n h => by
        obtain ⟨-, -, -, a, b, c⟩ := HF.out n h
        omega)
      obtain ⟨r1, r2⟩ := Hno.out hp
      have Hr := Lib.hid (show PNum w s (.returned (.tuple #[.int .i64 0, .bool false])) w from ⟨by rw [r1, r2], Below.refl _ _⟩)
      clear r1 r2
      go_enter Tryd.func19, Tryd.ntmps19
      go_wp2_with (fail)
      refine (IsDigits_s _ _ HTs).mono ?_
      rintro e w' ⟨rfl, rfl⟩
      rw [Hd.out]
      go_wp2
      refine bodyPost_ret (v := .tuple #[.int .i64 0, .bool false]) (by simp [results, Tryd.results19, go_sem]) rfl Hr.out
    go_enter Tryd.func19, Tryd.ntmps19
    go_wp2_with (fail)
    refine (IsDigits_s _ _ HTs).mono ?_
    rintro e w' ⟨rfl, rfl⟩
    rw [Hd.out]
    go_wp2
    go_loop [6, 7, 8] (fun nv i _ => ∃ (k D : Nat), k ≤ s.size ∧ i = .int .i64 k ∧ D = decV (s.data.toList.take k) ∧ nv = .int .i64 (-(D : Int)) ∧ D ≤ 9223372036854775808) (fun _ i _ => s.size - (intOf i).toNat)
    case atStart => exact ⟨0, 0, Nat.zero_le _, rfl, rfl, rfl, by decide⟩
    case round =>
      obtain ⟨k, D, hk, rfl, hD, rfl, hDb⟩ := hrel
      have HD := Lib.hid hD
      clear hD
      by_cases hlt : k < s.size
      · have hat := ba_at hlt
        have Hat := Lib.hid hat
        have hdg := Hdg.out
        rw [List.all_eq_true] at hdg
        have hc := digB_iff.1 (hdg _ (List.mem_of_getElem? hat))
        obtain ⟨d, hdd⟩ : ∃ d : Nat, d = s[k].toNat - 48 := ⟨_, rfl⟩
        have hd9 : d ≤ 9 := by omega
        have hcd : ((s[k]).toNat : Int) - 48 = (d : Int) := by omega
        have Hst := Lib.hid (show decV (s.data.toList.take (k + 1)) = D * 10 + d from by rw [decV_take hat, HD.out, hdd])
        have Hov := Lib.hid (decV_over hat)
        have hdk : decide ((k : Int) < (s.size : Int)) = true := by simp; omega
        have htd := tdiv10 (n := -9223372036854775808 + (d : Int)) (by omega)
        clear hat hdg hc
        by_cases hov : 9223372036854775808 < D * 10 + d
        · have hp := parse_none_of (s := s) (fun n h => by
            obtain ⟨k1, -, a, -, -, -⟩ := HF.out n h
            have := Hov.out
            have h3 := k1.1
            rw [← HD.out, ← hdd, a] at this
            omega)
          obtain ⟨r1, r2⟩ := Hno.out hp
          have Hr := Lib.hid (show PNum w s (.returned (.tuple #[.int .i64 0, .bool false])) w from ⟨by rw [r1, r2], Below.refl _ _⟩)
          have hte : decide (-(D : Int) < (-9223372036854775808 + (d : Int)).tdiv 10) = true := by simp; omega
          have hw1 : IntKind.i64.wrap ((-9223372036854775808 + (d : Int)).tdiv 10) = (-9223372036854775808 + (d : Int)).tdiv 10 := by rw [IntKind.wrap_i64]; omega
          clear r1 r2 hdd htd
          go_wp2
          refine bodyPost_ret (v := .tuple #[.int .i64 0, .bool false]) (by simp [results, Tryd.results19, go_sem]) rfl Hr.out
        · have hte : decide (-(D : Int) < (-9223372036854775808 + (d : Int)).tdiv 10) = false := by simp; omega
          have hw1 : IntKind.i64.wrap ((-9223372036854775808 + (d : Int)).tdiv 10) = (-9223372036854775808 + (d : Int)).tdiv 10 := by rw [IntKind.wrap_i64]; omega
          clear hdd htd
          go_wp2
          go_round
          case rel => exact ⟨k + 1, D * 10 + d, by omega, by go_num, by rw [Hst.out], by go_num, by omega⟩
          case measure => simp [intOf]; omega
      · have HDf := Lib.hid (show D = decV s.data.toList from by rw [HD.out, List.take_of_length_le (by rw [← ba_size]; omega)])
        have hdk : decide ((k : Int) < (s.size : Int)) = false := by simp; omega
        clear HD
        by_cases hmin : D = 9223372036854775808
        · subst hmin
          have hp := parse_none_of (s := s) (fun n h => by
            obtain ⟨k1, k2, a, -, -, -⟩ := HF.out n h
            rw [← HDf.out] at a
            have h3 := k1.1
            have h4 : ¬ n < 0 := fun hlt => by have := k2.2 hlt; rw [Hn.out] at this; cases this
            omega)
          obtain ⟨r1, r2⟩ := Hno.out hp
          have Hr := Lib.hid (show PNum w s (.returned (.tuple #[.int .i64 0, .bool false])) w from ⟨by rw [r1, r2], Below.refl _ _⟩)
          clear r1 r2
          go_wp2
          refine bodyPost_ret (v := .tuple #[.int .i64 0, .bool false]) (by simp [results, Tryd.results19, go_sem]) rfl Hr.out
        have hI : I64 (D : Int) := ⟨by omega, by omega⟩
        have hmn : ((-(D : Int)) == -9223372036854775808) = false := by rw [beq_eq_false_iff_ne]; omega
        go_wp2_with (fail)
        refine (FormatInt_s _ hI _).mono ?_
        rintro e w2 ⟨rfl, b2⟩
        by_cases hf : fmtInt (D : Int) = s
        · obtain ⟨r1, r2⟩ := parse_yes (parseI_some (s := s) (n := (D : Int)) ⟨hI.out, hf⟩)
          have Hr := Lib.hid (show PNum w s (.returned (.tuple #[.int .i64 (D : Int), .bool true])) w2 from ⟨by rw [r1, r2], b2⟩)
          clear r1 r2
          rw [hf]
          clear hf
          go_wp2
          refine bodyPost_ret (v := .tuple #[.int .i64 (D : Int), .bool true]) (by simp [results, Tryd.results19, go_sem]) rfl Hr.out
        · have hp := parse_none_of (s := s) (fun n h => by
            obtain ⟨k1, k2, a, -, -, -⟩ := HF.out n h
            rw [← HDf.out] at a
            have h4 : ¬ n < 0 := fun hlt => by have := k2.2 hlt; rw [Hn.out] at this; cases this
            have h5 : n = (D : Int) := by omega
            exact hf (by rw [← h5]; exact k1.2))
          obtain ⟨r1, r2⟩ := Hno.out hp
          have Hr := Lib.hid (show PNum w s (.returned (.tuple #[.int .i64 0, .bool false])) w2 from ⟨by rw [r1, r2], b2⟩)
          have hne := ba_neq' hf
          clear r1 r2 hf
          go_wp2
          refine bodyPost_ret (v := .tuple #[.int .i64 0, .bool false]) (by simp [results, Tryd.results19, go_sem]) rfl Hr.out
  · have h45 : s[0] = 45 := by
      unfold negB at hn
      rw [hhd] at hn; simpa using hn
    have heq : ((s[0].toNat : Int) == 45) = true := by rw [h45]; rfl
    have hb : bodyB s = s.extract 1 s.size := by unfold bodyB; rw [hn]; rfl
    obtain ⟨t, ht⟩ : ∃ t, t = s.extract 1 s.size := ⟨_, rfl⟩
    rw [hb, ← ht] at HF
    have Ht := Lib.hid ht
    have HTs : (s.extract 1 s.size).size ≤ 1048576 := Nat.le_trans (extract_size_le _ _ _) hs
    have Hn := Lib.hid hn
    clear hb hn h45 hhd hat0 hs0 ht
    cases hd : digitsB t
    · have hp := parse_none_of (s := s) (fun n h => by
        obtain ⟨-, -, -, a, b, -⟩ := HF.out n h
        unfold digitsB at hd
        rw [a, Bool.true_and, decide_eq_false_iff_not] at hd; exact hd b)
      have Hd := Lib.hid hd
      obtain ⟨r1, r2⟩ := Hno.out hp
      have Hr := Lib.hid (show PNum w s (.returned (.tuple #[.int .i64 0, .bool false])) w from ⟨by rw [r1, r2], Below.refl _ _⟩)
      clear r1 r2 hd
      go_enter Tryd.func19, Tryd.ntmps19
      go_wp2_with (fail)
      refine (IsDigits_s _ _ HTs).mono ?_
      rintro e w' ⟨rfl, rfl⟩
      rw [← Ht.out, Hd.out]
      go_wp2
      refine bodyPost_ret (v := .tuple #[.int .i64 0, .bool false]) (by simp [results, Tryd.results19, go_sem]) rfl Hr.out
    have Hd := Lib.hid hd
    unfold digitsB at hd
    rw [Bool.and_eq_true] at hd
    have Hdg := Lib.hid hd.1
    clear hd
    by_cases h19 : 19 < t.size
    · have hp := parse_none_of (s := s) (fun n h => by
        obtain ⟨-, -, -, a, b, c⟩ := HF.out n h
        omega)
      obtain ⟨r1, r2⟩ := Hno.out hp
      have Hr := Lib.hid (show PNum w s (.returned (.tuple #[.int .i64 0, .bool false])) w from ⟨by rw [r1, r2], Below.refl _ _⟩)
      clear r1 r2
      go_enter Tryd.func19, Tryd.ntmps19
      go_wp2_with (fail)
      refine (IsDigits_s _ _ HTs).mono ?_
      rintro e w' ⟨rfl, rfl⟩
      rw [← Ht.out, Hd.out]
      go_wp2
      refine bodyPost_ret (v := .tuple #[.int .i64 0, .bool false]) (by simp [results, Tryd.results19, go_sem]) rfl Hr.out
    go_enter Tryd.func19, Tryd.ntmps19
    go_wp2_with (fail)
    refine (IsDigits_s _ _ HTs).mono ?_
    rintro e w' ⟨rfl, rfl⟩
    rw [← Ht.out, Hd.out]
    go_wp2
    go_loop [6, 7, 8] (fun nv i _ => ∃ (k D : Nat), k ≤ t.size ∧ i = .int .i64 k ∧ D = decV (t.data.toList.take k) ∧ nv = .int .i64 (-(D : Int)) ∧ D ≤ 9223372036854775808) (fun _ i _ => t.size - (intOf i).toNat)
    case atStart => exact ⟨0, 0, Nat.zero_le _, rfl, rfl, rfl, by decide⟩
    case round =>
      obtain ⟨k, D, hk, rfl, hD, rfl, hDb⟩ := hrel
      have HD := Lib.hid hD
      clear hD
      by_cases hlt : k < t.size
      · have hat := ba_at hlt
        have Hat := Lib.hid hat
        have hdg := Hdg.out
        rw [List.all_eq_true] at hdg
        have hc := digB_iff.1 (hdg _ (List.mem_of_getElem? hat))
        obtain ⟨d, hdd⟩ : ∃ d : Nat, d = t[k].toNat - 48 := ⟨_, rfl⟩
        have hd9 : d ≤ 9 := by omega
        have hcd : ((t[k]).toNat : Int) - 48 = (d : Int) := by omega
        have Hst := Lib.hid (show decV (t.data.toList.take (k + 1)) = D * 10 + d from by rw [decV_take hat, HD.out, hdd])
        have Hov := Lib.hid (decV_over hat)
        have hdk : decide ((k : Int) < (t.size : Int)) = true := by simp; omega
        have htd := tdiv10 (n := -9223372036854775808 + (d : Int)) (by omega)
        clear hat hdg hc
        by_cases hov : 9223372036854775808 < D * 10 + d
        · have hp := parse_none_of (s := s) (fun n h => by
            obtain ⟨k1, -, a, -, -, -⟩ := HF.out n h
            have := Hov.out
            have h3 := k1.1
            rw [← HD.out, ← hdd, a] at this
            omega)
          obtain ⟨r1, r2⟩ := Hno.out hp
          have Hr := Lib.hid (show PNum w s (.returned (.tuple #[.int .i64 0, .bool false])) w from ⟨by rw [r1, r2], Below.refl _ _⟩)
          have hte : decide (-(D : Int) < (-9223372036854775808 + (d : Int)).tdiv 10) = true := by simp; omega
          have hw1 : IntKind.i64.wrap ((-9223372036854775808 + (d : Int)).tdiv 10) = (-9223372036854775808 + (d : Int)).tdiv 10 := by rw [IntKind.wrap_i64]; omega
          clear r1 r2 hdd htd
          go_wp2
          refine bodyPost_ret (v := .tuple #[.int .i64 0, .bool false]) (by simp [results, Tryd.results19, go_sem]) rfl Hr.out
        · have hte : decide (-(D : Int) < (-9223372036854775808 + (d : Int)).tdiv 10) = false := by simp; omega
          have hw1 : IntKind.i64.wrap ((-9223372036854775808 + (d : Int)).tdiv 10) = (-9223372036854775808 + (d : Int)).tdiv 10 := by rw [IntKind.wrap_i64]; omega
          clear hdd htd
          go_wp2
          go_round
          case rel => exact ⟨k + 1, D * 10 + d, by omega, by go_num, by rw [Hst.out], by go_num, by omega⟩
          case measure => simp [intOf]; omega
      · have HDf := Lib.hid (show D = decV t.data.toList from by rw [HD.out, List.take_of_length_le (by rw [← ba_size]; omega)])
        have hdk : decide ((k : Int) < (t.size : Int)) = false := by simp; omega
        clear HD
        have hI : I64 (-(D : Int)) := ⟨by omega, by omega⟩
        go_wp2_with (fail)
        refine (FormatInt_s _ hI _).mono ?_
        rintro e w2 ⟨rfl, b2⟩
        by_cases hf : fmtInt (-(D : Int)) = s
        · obtain ⟨r1, r2⟩ := parse_yes (parseI_some (s := s) (n := -(D : Int)) ⟨hI.out, hf⟩)
          have Hr := Lib.hid (show PNum w s (.returned (.tuple #[.int .i64 (-(D : Int)), .bool true])) w2 from ⟨by rw [r1, r2], b2⟩)
          clear r1 r2
          rw [hf]
          clear hf
          go_wp2
          refine bodyPost_ret (v := .tuple #[.int .i64 (-(D : Int)), .bool true]) (by simp [results, Tryd.results19, go_sem]) rfl Hr.out
        · have hp := parse_none_of (s := s) (fun n h => by
            obtain ⟨k1, k2, a, -, -, -⟩ := HF.out n h
            rw [← HDf.out] at a
            have h4 : n < 0 := k2.1 Hn.out
            have h5 : n = -(D : Int) := by omega
            exact hf (by rw [← h5]; exact k1.2))
          obtain ⟨r1, r2⟩ := Hno.out hp
          have Hr := Lib.hid (show PNum w s (.returned (.tuple #[.int .i64 0, .bool false])) w2 from ⟨by rw [r1, r2], b2⟩)
          have hne := ba_neq' hf
          clear r1 r2 hf
          go_wp2
          refine bodyPost_ret (v := .tuple #[.int .i64 0, .bool false]) (by simp [results, Tryd.results19, go_sem]) rfl Hr.out
end Go.Proofs.YtningnjdafhgkaaDoor

namespace Go.Proofs.YtningnjdafhgkaaDoor
open Go.RowKit

theorem atoi_I64 {l : List UInt8} {v : Int} (h : Lib.atoiAll l = .ok v) : I64 v := by
  unfold Lib.atoiAll at h
  split at h
  · cases h
  · rename_i c r
    simp only at h
    split at h
    · cases h
    · cases h
    · rename_i u hu
      split at h
      · cases h
      · split at h
        · cases h
        · rename_i h1 h2
          injection h with h
          by_cases hn : c.toNat = 45
          · simp only [hn, if_true] at h; simp [hn] at h1 h2; subst h; exact ⟨by omega, by omega⟩
          · simp only [hn, if_false] at h; simp [hn] at h1 h2; subst h; exact ⟨by omega, by omega⟩
/-- the library's two errors hold what their initialisers lay -/
def Errs (w : World) : Prop := (∃ te pe, w.cell? ⟨1, 0, none⟩ = some (.iface te pe)) ∧ (∃ te pe, w.cell? ⟨2, 0, none⟩ = some (.iface te pe))
theorem Errs.keep {w w' : World} (h : Errs w) (hb : Below w.heap.size w w') : Errs w' := by
  obtain ⟨⟨a, b, h1⟩, ⟨c, d, h2⟩⟩ := h
  exact ⟨⟨a, b, (hb.cell (block_lt_of_cell h1)).trans h1⟩, ⟨c, d, (hb.cell (block_lt_of_cell h2)).trans h2⟩⟩
def TabE (w : World) : Prop := Tab w ∧ Errs w
theorem TabE.keep {w w' : World} (h : TabE w) (hb : Below w.heap.size w w') : TabE w' := ⟨h.1.keep hb, h.2.keep hb⟩
theorem below_bytes {w w' : World} {e : TypeId} (h : w' = w ∨ ∃ t, w' = Lib.bytesWorld w e t) : Below w.heap.size w w' := by
  rcases h with rfl | ⟨t, rfl⟩
  · exact Below.refl _ _
  · exact Lib.bytesWorld_below _ _ _
set_option maxHeartbeats 800000 in
theorem ParseInt_i (s : ByteArray) (w : World) (hs : s.size ≤ 1048576) (ht : TabE w) : Calls Tryd.prog 22 #[.string s] w (PNum w s) := by
  obtain ⟨hT, ⟨te, pe, he1⟩, ⟨te2, pe2, he2⟩⟩ := ht
  have HT := Lib.hid hT
  cases ha : Lib.atoiAll s.data.toList with
  | ok v =>
    have hI := atoi_I64 ha
    have Ha := Lib.hid ha
    clear ha he1 he2 hT
    go_enter Tryd.func22, Tryd.ntmps22
    go_wp2_with (fail)
    refine (Tryd.strconv_Atoi_ok s (by omega) v Ha.out w).mono ?_
    rintro e w1 ⟨rfl, hw⟩
    have b1 := below_bytes hw
    clear hw
    go_wp2_with (fail)
    refine (FormatInt_i v hI _ (HT.out.keep b1)).mono ?_
    rintro e w2 ⟨rfl, b2⟩
    have bb := b1.trans_pure b2 (Nat.le_refl _)
    by_cases hf : fmtInt v = s
    · obtain ⟨r1, r2⟩ := parse_yes (parseI_some (s := s) (n := v) ⟨hI.out, hf⟩)
      have Hr := Lib.hid (show PNum w s (.returned (.tuple #[.int .i64 v, .bool true])) w2 from ⟨by rw [r1, r2], bb⟩)
      clear r1 r2
      rw [hf]
      clear hf
      go_wp2
      refine bodyPost_ret (v := .tuple #[.int .i64 v, .bool true]) (by simp [results, Tryd.results22, go_sem]) rfl Hr.out
    · have hp := parse_none_of (s := s) (fun n h => by
        have h2 := parseI_atoi h
        rw [Ha.out] at h2
        injection h2 with h2
        exact hf (by rw [h2]; exact (parseI_num h).2))
      obtain ⟨r1, r2⟩ := parse_no hp
      have Hr := Lib.hid (show PNum w s (.returned (.tuple #[.int .i64 0, .bool false])) w2 from ⟨by rw [r1, r2], bb⟩)
      have hne := ba_neq' hf
      clear r1 r2 hf
      go_wp2
      refine bodyPost_ret (v := .tuple #[.int .i64 0, .bool false]) (by simp [results, Tryd.results22, go_sem]) rfl Hr.out
  | range =>
    have hp := parse_none_of (s := s) (fun n h => by have h2 := parseI_atoi h; rw [ha] at h2; cases h2)
    obtain ⟨r1, r2⟩ := parse_no hp
    have Hr := Lib.hid (fun w2 (bb : Below w.heap.size w w2) => show PNum w s (.returned (.tuple #[.int .i64 0, .bool false])) w2 from ⟨by rw [r1, r2], bb⟩)
    have Ha := Lib.hid ha
    clear ha hT r1 r2 he1
    have He := Lib.hid he2
    clear he2
    go_enter Tryd.func22, Tryd.ntmps22
    go_wp2_with (fail)
    refine (Tryd.strconv_Atoi_range s (by omega) Ha.out _ w He.out (.inr ⟨te2, pe2, rfl⟩)).mono ?_
    rintro e w1 ⟨N, rfl, -, -, b1⟩
    go_wp2
    refine bodyPost_ret (v := .tuple #[.int .i64 0, .bool false]) (by simp [results, Tryd.results22, go_sem]) rfl (Hr.out _ b1)
  | _ =>
    have hp := parse_none_of (s := s) (fun n h => by have h2 := parseI_atoi h; rw [ha] at h2; cases h2)
    obtain ⟨r1, r2⟩ := parse_no hp
    have Hr := Lib.hid (fun w2 (bb : Below w.heap.size w w2) => show PNum w s (.returned (.tuple #[.int .i64 0, .bool false])) w2 from ⟨by rw [r1, r2], bb⟩)
    have Ha := Lib.hid ha
    clear ha hT r1 r2 he2
    have He := Lib.hid he1
    clear he1
    go_enter Tryd.func22, Tryd.ntmps22
    go_wp2_with (fail)
    refine (Tryd.strconv_Atoi_syntax s (by omega) Ha.out trivial _ w He.out (.inr ⟨te, pe, rfl⟩)).mono ?_
    rintro e w1 ⟨N, rfl, -, -, b1⟩
    go_wp2
    refine bodyPost_ret (v := .tuple #[.int .i64 0, .bool false]) (by simp [results, Tryd.results22, go_sem]) rfl (Hr.out _ b1)
end Go.Proofs.YtningnjdafhgkaaDoor

namespace Go.Proofs.YtningnjdafhgkaaDoor
open Go.RowKit

theorem parse_text {p : ByteArray} (h : parseYes p = true) : fmtInt (parseVal p) = p ∧ I64 (parseVal p) := by
  unfold parseYes parseVal at *
  cases hp : parseI p with
  | none => rw [hp] at h; cases h
  | some n => have k := parseI_num hp; exact ⟨k.2, k.1⟩
noncomputable def sumsParts (s : ByteArray) : List Int := (splitB s 44).map parseVal
noncomputable def sumsYes (s : ByteArray) : Bool := decide (s = ⟨#[45]⟩) || (splitB s 44).all parseYes
noncomputable def sumsVal (s : ByteArray) : List Int := if s = ⟨#[45]⟩ then [] else if (splitB s 44).all parseYes then sumsParts s else []
def SumsRes (w : World) (s : ByteArray) (e : Ending) (w' : World) : Prop :=
  ∃ v', e = .returned (.tuple #[v', .bool (sumsYes s)]) ∧ Own 3 IntV (Iv w.heap.size w'.heap.size) w' v' (sumsVal s) ∧ Below w.heap.size w w'
theorem sumsVal_len (s : ByteArray) (h : s.size ≤ 1048576) : (sumsVal s).length ≤ 1048577 := by
  unfold sumsVal sumsParts
  split
  · simp
  · split
    · have := splitB_len s 44; rw [List.length_map]; omega
    · simp
theorem sums_back {s : ByteArray} (h : (splitB s 44).all parseYes = true) : sumsText (sumsParts s) = s := by
  unfold sumsText sumsParts
  rw [List.all_eq_true] at h
  have hne : (splitB s 44).map parseVal ≠ [] := by
    intro e
    have h1 := congrArg List.length e
    have h2 := splitB_pos s 44
    rw [List.length_map] at h1
    simp at h1
    rw [h1] at h2; simp at h2
  rw [if_neg hne]
  unfold intsText
  rw [List.map_map]
  have e : (splitB s 44).map (fmtInt ∘ parseVal) = splitB s 44 :=
    (List.map_congr_left (f := fmtInt ∘ parseVal) (g := id) (fun p hp => (parse_text (h p hp)).1)).trans (List.map_id _)
  rw [e, splitB_join]
theorem dash_split : parseI (⟨#[45]⟩ : ByteArray) = none := by
  apply parse_none_of
  intro n h
  obtain ⟨k, k2, a, b, c, d⟩ := num_facts h
  have hn : negB ⟨#[45]⟩ = true := by decide
  have hb : bodyB ⟨#[45]⟩ = (⟨#[45]⟩ : ByteArray).extract 1 1 := by unfold bodyB; rw [hn]; rfl
  rw [hb] at c
  exact absurd c (by decide)
theorem map_take_V {ps : List ByteArray} {k : Nat} {p : ByteArray} (h : ps[k]? = some p) : (ps.take (k + 1)).map parseVal = (ps.take k).map parseVal ++ [parseVal p] := by
  rw [List.take_add_one, h]; simp
theorem all_take_stepP (f : ByteArray → Bool) {l : List ByteArray} {k : Nat} {x : ByteArray} (h : l[k]? = some x) : (l.take (k + 1)).all f = ((l.take k).all f && f x) := by
  rw [List.take_add_one, h, List.all_append]; simp

set_option maxRecDepth 100000 in
set_option maxHeartbeats 800000 in
theorem ParseSums_i (s : ByteArray) (w : World) (hs : s.size ≤ 1048576) (ht : TabE w) : Calls Tryd.prog 6 #[.string s] w (SumsRes w s) := by
  by_cases hdash : s = ⟨#[45]⟩
  · subst hdash
    have Hy := Lib.hid (show sumsYes ⟨#[45]⟩ = true from by unfold sumsYes; simp)
    have Hv := Lib.hid (show sumsVal ⟨#[45]⟩ = [] from by unfold sumsVal; rw [if_pos rfl])
    go_enter Tryd.func6, Tryd.ntmps6
    go_wp2
    refine bodyPost_ret (v := .tuple #[.slice none 0 0, .bool true]) (by simp [results, Tryd.results6, go_sem]) rfl ⟨_, by rw [Hy.out], by rw [Hv.out]; exact Own.nil _ _ _ _, Below.refl _ _⟩
  have hne := ba_neq' hdash
  rw [show (⟨#[45]⟩ : ByteArray).toList = [45] from by rw [ByteArray.toList_eq]] at hne
  have hnd : decide (s = ⟨#[45]⟩) = false := by simpa using hdash
  have Hyes := Lib.hid (show sumsYes s = (splitB s 44).all parseYes from by unfold sumsYes; rw [hnd, Bool.false_or])
  have Hval := Lib.hid (show sumsVal s = if (splitB s 44).all parseYes then sumsParts s else [] from by unfold sumsVal; rw [if_neg hdash])
  have Ht := Lib.hid ht
  clear hdash hnd ht
  go_enter Tryd.func6, Tryd.ntmps6
  go_wp2_with (fail)
  refine (SplitAny_i _ _ _ hs).mono ?_
  rintro e w1 ⟨v1, rfl, own1, bel1⟩
  have hps := splitB_len s 44
  have hsz := splitB_part_size s 44
  obtain ⟨ps, hpe⟩ : ∃ ps, ps = splitB s 44 := ⟨_, rfl⟩
  have Hpe := Lib.hid hpe
  rw [← hpe] at own1 hps hsz
  have hst : Strs w1 v1 ps := (rSl rStrV).rd (own1.sl (fun _ _ _ _ h => h) rStrV)
  have Hv := Lib.hid hst
  have hB1 := bel1.size
  have Hsz := Lib.hid hsz
  obtain ⟨a, cap0, rfl, -⟩ := hst
  clear hpe own1 hsz hne
  go_wp2
  go_loopw [4, 6, 7, 8, 14] (fun v _ _ _ i wr => ∃ k : Nat, k ≤ ps.length ∧ i = .int .i64 k ∧ (ps.take k).all parseYes = true ∧ Own 3 IntV (Iv w1.heap.size wr.heap.size) wr v ((ps.take k).map parseVal) ∧ Below w1.heap.size w1 wr) (fun _ _ _ _ i _ => ps.length - (intOf i).toNat)
  case atStart => exact ⟨0, Nat.zero_le _, rfl, rfl, Own.nil _ _ _ _, Below.refl _ _⟩
  case round =>
    obtain ⟨k, hk, rfl, hall, hown, hbel1⟩ := hrel
    obtain ⟨wo, rfl⟩ : ∃ wo : World, wo = wr := ⟨_, rfl⟩
    have hbel := bel1.trans (hbel1.mono hB1)
    have hBs := hbel1.size
    have hBw := hbel.size
    have Hall := Lib.hid hall; clear hall
    by_cases hlt : k < ps.length
    · obtain ⟨q, hq⟩ : ∃ q, ps[k]? = some q := ⟨_, List.getElem?_eq_getElem hlt⟩
      obtain ⟨b, off, cpr, he, hb, -⟩ := Hv.out.inv_ne (by omega)
      obtain ⟨rfl, -⟩ : a = some ⟨b, off, none⟩ ∧ cap0 = cpr := by simpa using he
      obtain ⟨u, hck, rfl, -⟩ := Sl.at Hv.out hq
      rw [← hbel1.cell (p := ⟨b, off + k, none⟩) hb] at hck
      have hqs : q.size ≤ 1048576 := by have := Hsz.out q (List.mem_of_getElem? hq); omega
      have Hst := Lib.hid (map_take_V hq)
      have Has := Lib.hid (all_take_stepP parseYes hq)
      have Hq := Lib.hid hq
      have hkl : ((ps.take k).map parseVal).length < 1099511627776 := by simp; omega
      have hdk : decide ((k : Int) < (ps.length : Int)) = true := by simp; omega
      obtain ⟨p1, p2, p3, rfl⟩ := hown.shape
      have Hown := Lib.hid hown
      clear hq hown he
      go_wp2_with (fail)
      refine (ParseInt_i _ _ hqs (Ht.out.keep hbel)).mono ?_
      rintro e w2 ⟨rfl, b2⟩
      have hs2 := b2.size
      cases hy : parseYes q
      · have Hbad := Lib.hid (show (splitB s 44).all parseYes = false from by rw [← Hpe.out, List.all_eq_false]; exact ⟨q, List.mem_of_getElem? Hq.out, by simp [hy]⟩)
        have Hy := Lib.hid (show sumsYes s = false from by rw [Hyes.out, Hbad.out])
        have Hvv := Lib.hid (show sumsVal s = [] from by rw [Hval.out, Hbad.out]; rfl)
        have hbf := hbel.trans (b2.mono hBw)
        clear hy
        go_wp2
        refine bodyPost_ret (v := .tuple #[.slice none 0 0, .bool false]) (by simp [results, Tryd.results6, go_sem]) rfl ⟨_, by rw [Hy.out], by rw [Hvv.out]; exact Own.nil _ _ _ _, hbf⟩
      · have Hy := Lib.hid hy
        have hI := (parse_text hy).2
        have hbo := hbel1.trans (b2.mono hBs)
        clear hy
        go_wp2_with (first | (at_builtin; (refine wpList_appR rfl _ _ 22 rfl rIntV 3 Tryd.underlying22 infoInt rfl (by decide) w1.heap.size wo.heap.size hBs hs2 rfl rfl (by exact Own.keep rIntV Hown.out b2 (Nat.le_refl _)) (by exact ⟨rfl, hI⟩) hkl ?_); intro v3 w3 hown3 hbel3 _) | fail)
        have hb3 := hbo.trans hbel3
        have Hown3 := Lib.hid hown3
        clear hown3
        go_wp2
        go_roundw
        case rel => exact ⟨k + 1, by omega, by go_num, by rw [Has.out, Hall.out, Hy.out]; rfl, by rw [Hst.out]; exact Hown3.out, hb3⟩
        case measure => simp [intOf]; omega
    · have Hpa := Lib.hid (show (splitB s 44).all parseYes = true from by rw [← Hpe.out]; have h := Hall.out; rwa [List.take_of_length_le (by omega)] at h)
      have Hy := Lib.hid (show sumsYes s = true from by rw [Hyes.out, Hpa.out])
      have Hvv := Lib.hid (show sumsVal s = ps.map parseVal from by rw [Hval.out, Hpa.out, Hpe.out]; rfl)
      have hfin := hown
      rw [List.take_of_length_le (by omega)] at hfin
      obtain ⟨p1, p2, p3, rfl⟩ := hown.shape
      have Hfin := Lib.hid ((rOwn rIntV).mono (S' := Iv w.heap.size wo.heap.size) (fun b hb => ⟨by have := hb.1; omega, hb.2⟩) hfin)
      clear hown hfin
      go_wp2
      refine bodyPost_ret (v := .tuple #[.slice p1 p2 p3, .bool true]) (by simp [results, Tryd.results6, go_sem]) rfl ⟨_, by rw [Hy.out], by rw [Hvv.out]; exact Hfin.out, hbel⟩
set_option maxRecDepth 100000 in
set_option maxHeartbeats 800000 in
theorem ParseSums_s (s : ByteArray) (w : World) (hs : s.size ≤ 1048576) : Calls Tryd.prog 5 #[.string s] w (SumsRes w s) := by
  by_cases hdash : s = ⟨#[45]⟩
  · subst hdash
    have Hy := Lib.hid (show sumsYes ⟨#[45]⟩ = true from by unfold sumsYes; simp)
    have Hv := Lib.hid (show sumsVal ⟨#[45]⟩ = [] from by unfold sumsVal; rw [if_pos rfl])
    go_enter Tryd.func5, Tryd.ntmps5
    go_wp2
    refine bodyPost_ret (v := .tuple #[.slice none 0 0, .bool true]) (by simp [results, Tryd.results5, go_sem]) rfl ⟨_, by rw [Hy.out], by rw [Hv.out]; exact Own.nil _ _ _ _, Below.refl _ _⟩
  have hne := ba_neq' hdash
  rw [show (⟨#[45]⟩ : ByteArray).toList = [45] from by rw [ByteArray.toList_eq]] at hne
  have hnd : decide (s = ⟨#[45]⟩) = false := by simpa using hdash
  have Hyes := Lib.hid (show sumsYes s = (splitB s 44).all parseYes from by unfold sumsYes; rw [hnd, Bool.false_or])
  have Hval := Lib.hid (show sumsVal s = if (splitB s 44).all parseYes then sumsParts s else [] from by unfold sumsVal; rw [if_neg hdash])
  clear hdash hnd
  have hbl := Below.pureAlloc w (.cells #[] 3)
  go_enter Tryd.func5, Tryd.ntmps5
  go_wp2_with (fail)
  refine (SplitAny_s _ _ _ hs).mono ?_
  rintro e w1 ⟨v1, rfl, own1, bel1⟩
  have hps := splitB_len s 44
  have hsz := splitB_part_size s 44
  obtain ⟨ps, hpe⟩ : ∃ ps, ps = splitB s 44 := ⟨_, rfl⟩
  have Hpe := Lib.hid hpe
  rw [← hpe] at own1 hps hsz
  have Hown1 := Lib.hid own1
  have hst : Strs w1 v1 ps := (rSl rStrV).rd (own1.sl (fun _ _ _ _ h => h) rStrV)
  have Hv := Lib.hid hst
  have hB1 : (w.alloc (.cells #[] 3)).heap.size ≤ w1.heap.size := bel1.size
  have hz0 : (w.alloc (.cells #[] 3)).heap.size = w.heap.size + 1 := by simp
  have hz1 : w.heap.size + 1 ≤ w1.heap.size := by omega
  have Hz0 := Lib.hid hz0
  have Hsz := Lib.hid hsz
  have hbel0 := hbl.trans_pure bel1 (Nat.le_refl _)
  have hown0 : Own 3 IntV (SpOut w.heap.size w1.heap.size w1.heap.size) w1 (.slice (some ⟨w.heap.size, 0, none⟩) 0 0) [] := by
    have h : Own 3 IntV (Iv w.heap.size (w.alloc (.cells #[] 3)).heap.size) w1 (.slice (some ⟨w.heap.size, 0, none⟩) 0 0) [] := Own.keep rIntV (own_lit0 w 3 w.heap.size rIntV) bel1 (Nat.le_refl _)
    refine (rOwn rIntV).mono (fun b hb => ?_) h
    have h2 := hb.1
    have h3 := hb.2
    exact ⟨.inl (by omega), by omega⟩
  have Hown0 := Lib.hid hown0
  have hB10 := hbel0.size
  obtain ⟨a, cap0, rfl, -⟩ := hst
  clear hpe own1 hsz hown0 hne hz0
  go_wp2
  go_loopw [4, 6, 7, 8, 15] (fun v _ _ _ i wr => ∃ k : Nat, k ≤ ps.length ∧ i = .int .i64 k ∧ (ps.take k).all parseYes = true ∧ Own 3 IntV (SpOut w.heap.size w1.heap.size wr.heap.size) wr v ((ps.take k).map parseVal) ∧ Below w.heap.size w wr ∧ SameOn (fun b => w.heap.size < b ∧ b < w1.heap.size) w1 wr ∧ w1.heap.size ≤ wr.heap.size) (fun _ _ _ _ i _ => ps.length - (intOf i).toNat)
  case atStart => exact ⟨0, Nat.zero_le _, rfl, rfl, Hown0.out, hbel0, fun _ _ => rfl, Nat.le_refl _⟩
  case round =>
    obtain ⟨k, hk, rfl, hall, hown, hbel, hsame, hsz1⟩ := hrel
    obtain ⟨wo, rfl⟩ : ∃ wo : World, wo = wr := ⟨_, rfl⟩
    have hBs := hbel.size
    have Hall := Lib.hid hall; clear hall
    by_cases hlt : k < ps.length
    · obtain ⟨q, hq⟩ : ∃ q, ps[k]? = some q := ⟨_, List.getElem?_eq_getElem hlt⟩
      obtain ⟨b, cpr, he, hb, -⟩ := Hown1.out.inv_ne (by omega)
      obtain ⟨rfl, -⟩ : a = some ⟨b, 0, none⟩ ∧ cap0 = cpr := by simpa using he
      obtain ⟨u, hck, rfl, -⟩ := Sl.at Hv.out hq
      have hbm : w.heap.size < b ∧ b < w1.heap.size := ⟨by have := hb.1; have := Hz0.out; omega, hb.2⟩
      rw [← World.cell?_of_block (a := ⟨b, 0 + k, none⟩) (hsame b hbm), Nat.zero_add] at hck
      have hqs : q.size ≤ 1048576 := by have := Hsz.out q (List.mem_of_getElem? hq); omega
      have Hst := Lib.hid (map_take_V hq)
      have Has := Lib.hid (all_take_stepP parseYes hq)
      have Hq := Lib.hid hq
      have hkl : ((ps.take k).map parseVal).length < 1099511627776 := by simp; omega
      have hdk : decide ((k : Int) < (ps.length : Int)) = true := by simp; omega
      obtain ⟨p1, p2, p3, rfl⟩ := hown.shape
      have Hown := Lib.hid hown
      clear hq hown he
      go_wp2_with (fail)
      refine (ParseInt_s _ _ hqs).mono ?_
      rintro e w2 ⟨rfl, b2⟩
      have hs2 := b2.size
      cases hy : parseYes q
      · have Hbad := Lib.hid (show (splitB s 44).all parseYes = false from by rw [← Hpe.out, List.all_eq_false]; exact ⟨q, List.mem_of_getElem? Hq.out, by simp [hy]⟩)
        have Hy := Lib.hid (show sumsYes s = false from by rw [Hyes.out, Hbad.out])
        have Hvv := Lib.hid (show sumsVal s = [] from by rw [Hval.out, Hbad.out]; rfl)
        have hbf := hbel.trans (b2.mono hBs)
        clear hy
        go_wp2
        refine bodyPost_ret (v := .tuple #[.slice none 0 0, .bool false]) (by simp [results, Tryd.results5, go_sem]) rfl ⟨_, by rw [Hy.out], by rw [Hvv.out]; exact Own.nil _ _ _ _, hbf⟩
      · have Hy := Lib.hid hy
        have hI := (parse_text hy).2
        have hbo := hbel.trans (b2.mono hBs)
        have HK := Lib.hid ((rOwn rIntV).same (sameOn_below b2 (fun b (hb : SpOut w.heap.size w1.heap.size wo.heap.size b) => hb.2)) Hown.out)
        have HS := Lib.hid (show ∀ b, SpOut w.heap.size w1.heap.size wo.heap.size b → b < w2.heap.size from fun b h1 => by have := h1.2; omega)
        have HS1 := Lib.hid (show ∀ b, SpOut w.heap.size w1.heap.size wo.heap.size b → (b = w.heap.size ∨ w1.heap.size ≤ b) from fun b h1 => h1.1)
        have HN1 := Lib.hid (show ∀ b, w2.heap.size < b → (b = w.heap.size ∨ w1.heap.size ≤ b) from fun b h1 => .inr (by omega))
        clear hy
        go_wp2_with (first | (at_builtin; (refine wpList_app rfl _ _ 22 rfl rIntV 3 Tryd.underlying22 infoInt rfl (by decide) (SpOut w.heap.size w1.heap.size wo.heap.size) (fun _ => False) (fun b => b = w.heap.size ∨ w1.heap.size ≤ b) _ _ _ _ rfl rfl (by exact HK.out) (by exact ⟨rfl, hI⟩) (fun _ _ h => h.elim) HS.out (fun _ h => h.elim) HS1.out (fun _ h => h.elim) HN1.out hkl ?_); intro v3 w3 hown3 honly3) | fail)
        have hob : ∀ b, (Value.slice p1 p2 p3).ownBlock = some b → SpOut w.heap.size w1.heap.size wo.heap.size b := fun b hb => Own.ownBlock' HK.out b hb
        have hb3 : Below w.heap.size w w3 := hbo.trans (honly3.below (by omega) (fun b hb => by rcases (hob b hb).1 with h | h <;> omega))
        have hs3 : SameOn (fun b => w.heap.size < b ∧ b < w1.heap.size) w1 w3 := fun b hb => by
          rw [honly3.block b (by have := hb.2; omega) (fun h => by have := hb.1; have := hb.2; rcases (hob b h).1 with h | h <;> omega), b2.block b (by have := hb.2; omega)]
          exact hsame b hb
        have hz3 : w1.heap.size ≤ w3.heap.size := by have := honly3.size; omega
        have Hown3 := Lib.hid hown3
        clear hown3
        go_wp2
        go_roundw
        case rel => exact ⟨k + 1, by omega, by go_num, by rw [Has.out, Hall.out, Hy.out]; rfl, by rw [Hst.out]; exact Hown3.out, hb3, hs3, hz3⟩
        case measure => simp [intOf]; omega
    · have hpa : (splitB s 44).all parseYes = true := by rw [← Hpe.out]; have h := Hall.out; rwa [List.take_of_length_le (by omega)] at h
      have Hy := Lib.hid (show sumsYes s = true from by rw [Hyes.out, hpa])
      have Hvv := Lib.hid (show sumsVal s = sumsParts s from by rw [Hval.out, hpa]; rfl)
      have Hback := Lib.hid (sums_back hpa)
      have hsl : (sumsParts s).length ≤ 2097152 := by unfold sumsParts; rw [List.length_map, ← Hpe.out]; omega
      have hfin := hown
      rw [List.take_of_length_le (by omega), show ps.map parseVal = sumsParts s from by rw [Hpe.out]; rfl] at hfin
      obtain ⟨p1, p2, p3, rfl⟩ := hown.shape
      have Hg := Lib.hid hfin.ints
      have Hfin := Lib.hid ((rOwn rIntV).mono (S' := Iv w.heap.size wo.heap.size) (fun b hb => ⟨by rcases hb.1 with h | h <;> omega, hb.2⟩) hfin)
      have hdk : decide ((k : Int) < (ps.length : Int)) = false := by simp; omega
      clear hown hfin hpa
      go_wp2_with (fail)
      refine (FormatSums_s _ _ _ Hg.out hsl).mono ?_
      rintro e w2 ⟨rfl, b2⟩
      rw [Hback.out]
      have hbf := hbel.trans (b2.mono hBs)
      have Hres := Lib.hid ((Own.keep rIntV Hfin.out b2 (Nat.le_refl _)).grow rIntV b2.size (Below.refl _ _))
      go_wp2
      refine bodyPost_ret (v := .tuple #[.slice p1 p2 p3, .bool true]) (by simp [results, Tryd.results5, go_sem]) rfl ⟨_, by rw [Hy.out], by rw [Hvv.out]; exact Hres.out, hbf⟩
end Go.Proofs.YtningnjdafhgkaaDoor

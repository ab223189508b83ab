/- Contracts: numbers out of texts: ParseInt of the reference. -/
import Derived.Test.YtekgnpdchpdfiaaDoorF1
import Derived.Test.YtekgnpdchpdfiaaDoorTextN
import Derived.Test.YtekgnpdchpdfiaaDoorT1
namespace Go.Proofs.YtekgnpdchpdfiaaDoor
open Go.RowKit

theorem all_take_stepU (p : UInt8 → Bool) {l : List UInt8} {k : Nat} {x : UInt8} (h : l[k]? = some x) : (l.take (k + 1)).all p = ((l.take k).all p && p x) := by
  rw [List.take_add_one, h, List.all_append]; simp
def digitsB (s : ByteArray) : Bool := s.data.toList.all digB && decide (0 < s.size)
set_option maxHeartbeats 400000 in
theorem IsDigits_s (s : ByteArray) (w : World) (hs : s.size ≤ 1048576) : Calls Tryd.prog 99 #[.string s] w fun e w' => e = .returned (.bool (digitsB s)) ∧ w = w' := by
  go_enter Tryd.func99, Tryd.ntmps99
  go_wp2
  go_loop [3] (fun i => ∃ k : Nat, k ≤ s.size ∧ i = .int .i64 k ∧ (s.data.toList.take k).all digB = true) (fun i => s.size - (intOf i).toNat)
  case atStart => exact ⟨0, Nat.zero_le _, rfl, rfl⟩
  case round =>
    obtain ⟨k, hk, rfl, hall⟩ := hrel
    have Hall := Lib.hid hall; clear hall
    by_cases hlt : k < s.size
    · have hat := ba_at hlt
      have Has := Lib.hid (all_take_stepU digB hat)
      have Hat := Lib.hid hat
      clear hat
      have Hbad := Lib.hid (show digB s[k] = false → digitsB s = false from fun h => by
        unfold digitsB
        rw [Bool.and_eq_false_iff]; left
        rw [List.all_eq_false]; exact ⟨s[k], List.mem_of_getElem? Hat.out, by simp [h]⟩)
      by_cases h1 : s[k].toNat < 48
      · have Hr := Lib.hid (Hbad.out (by simp [digB]; omega))
        have hd : decide (((s[k]).toNat : Int) < 48) = true := by simp; omega
        go_wp2
        go_ret
        exact ⟨retB Hr.out.symm, rfl⟩
      · have hd : decide (((s[k]).toNat : Int) < 48) = false := by simp; omega
        by_cases h2 : 57 < s[k].toNat
        · have Hr := Lib.hid (Hbad.out (by simp [digB]; omega))
          have hd2 : decide ((57 : Int) < ((s[k]).toNat : Int)) = true := by simp; omega
          go_wp2
          go_ret
          exact ⟨retB Hr.out.symm, rfl⟩
        · have Hg := Lib.hid (show digB s[k] = true from by simp [digB]; omega)
          have hd2 : decide ((57 : Int) < ((s[k]).toNat : Int)) = false := by simp; omega
          go_wp2
          go_round
          case rel => exact ⟨k + 1, by omega, by go_num, by rw [Has.out, Hall.out, Hg.out]; rfl⟩
          case measure => simp [intOf]; omega
    · have Hr := Lib.hid (show digitsB s = decide (0 < s.size) from by
        have h := Hall.out
        rw [List.take_of_length_le (by rw [← ba_size]; omega)] at h
        unfold digitsB; rw [h]; simp)
      go_wp2
      go_ret
      exact ⟨retB Hr.out.symm, rfl⟩
theorem ba_neq' {a b : ByteArray} (h : a ≠ b) : (a.toList == b.toList) = false := by
  rw [beq_eq_false_iff_ne]; exact fun e => h (ba_ext (by rw [ByteArray.toList_eq, ByteArray.toList_eq] at e; exact e))
/-- a minus sign at the head -/
def negB (s : ByteArray) : Bool := s.data.toList.head? == some 45
def bodyB (s : ByteArray) : ByteArray := if negB s then s.extract 1 s.size else s
theorem num_facts {s : ByteArray} {n : Int} (h : parseI s = some n) : IsNum s n ∧ (negB s = true ↔ n < 0) ∧ decV (bodyB s).data.toList = n.natAbs ∧ (bodyB s).data.toList.all digB = true ∧ 0 < (bodyB s).size ∧ (bodyB s).size ≤ 19 := by
  have k := parseI_num h
  refine ⟨k, ?_⟩
  rcases Int.lt_or_le n 0 with h0 | h0
  · obtain ⟨l, hl, a, b, c, d⟩ := k.neg h0
    have hn : negB s = true := by unfold negB; rw [hl]; rfl
    have hb : (bodyB s).data.toList = l := by
      unfold bodyB
      rw [if_pos hn, ba_extract, hl, ba_size, hl]
      simp
    rw [ba_size, hb]
    exact ⟨⟨fun _ => h0, fun _ => hn⟩, a, b, c, d⟩
  · obtain ⟨a, b, c, d⟩ := k.pos h0
    have hn : negB s = false := by
      unfold negB
      cases hl : s.data.toList with
      | nil => rfl
      | cons x l =>
        rw [hl] at b
        rw [List.all_cons, Bool.and_eq_true] at b
        have := digB_iff.1 b.1
        rw [List.head?_cons, beq_eq_false_iff_ne]
        intro e
        injection e with e
        subst e
        simp at this
    have hb : bodyB s = s := by unfold bodyB; rw [hn]; rfl
    rw [hb]
    exact ⟨⟨fun h => absurd (hn.symm.trans h) (by decide), fun h => absurd h (by omega)⟩, a, b, c, d⟩
theorem parse_none_of {s : ByteArray} (h : ∀ n, parseI s = some n → False) : parseI s = none := by
  cases hp : parseI s with
  | none => rfl
  | some n => exact (h n hp).elim
noncomputable def parseVal (s : ByteArray) : Int := (parseI s).getD 0
noncomputable def parseYes (s : ByteArray) : Bool := (parseI s).isSome
theorem parse_no {s : ByteArray} (h : parseI s = none) : parseVal s = 0 ∧ parseYes s = false := by unfold parseVal parseYes; rw [h]; exact ⟨rfl, rfl⟩
theorem parse_yes {s : ByteArray} {n : Int} (h : parseI s = some n) : parseVal s = n ∧ parseYes s = true := by unfold parseVal parseYes; rw [h]; exact ⟨rfl, rfl⟩
def PNum (w : World) (s : ByteArray) (e : Ending) (w' : World) : Prop := e = .returned (.tuple #[.int .i64 (parseVal s), .bool (parseYes s)]) ∧ Below w.heap.size w w'
theorem decV_over {t : ByteArray} {k : Nat} {c : UInt8} (h : t.data.toList[k]? = some c) : decV (t.data.toList.take k) * 10 + (c.toNat - 48) ≤ decV t.data.toList := by
  rw [← decV_take h]; exact decV_take_le _ _
set_option maxRecDepth 100000 in
set_option maxHeartbeats 1600000 in
theorem ParseInt_s (s : ByteArray) (w : World) (hs : s.size ≤ 1048576) : Calls Tryd.prog 66 #[.string s] w (PNum w s) := by
  have hfacts := fun n (h : parseI s = some n) => num_facts h
  have HF := Lib.hid hfacts
  clear hfacts
  have Hno := Lib.hid (fun h => parse_no (s := s) h)
  by_cases hs0 : s.size = 0
  · have hs00 : s = ByteArray.empty := by apply ba_ext; have h := ba_size s; rw [hs0] at h; exact List.eq_nil_of_length_eq_zero h.symm
    subst hs00
    have hp := parse_none_of (s := ByteArray.empty) (fun n h => by
      obtain ⟨-, -, -, -, b, -⟩ := HF.out n h
      simp [bodyB, negB] at b)
    obtain ⟨r1, r2⟩ := Hno.out hp
    have Hr := Lib.hid (show PNum w ByteArray.empty (.returned (.tuple #[.int .i64 0, .bool false])) w from ⟨by rw [r1, r2], Below.refl _ _⟩)
    clear r1 r2
    go_enter Tryd.func66, Tryd.ntmps66
    go_wp2_with (fail)
    refine (IsDigits_s _ _ hs).mono ?_
    rintro e w' ⟨rfl, rfl⟩
    rw [show digitsB ByteArray.empty = false from by simp [digitsB]]
    go_wp2
    refine bodyPost_ret (v := .tuple #[.int .i64 0, .bool false]) (by simp [results, Tryd.results66, go_sem]) rfl Hr.out
  have hpos : 0 < s.size := by omega
  have hat0 := ba_at hpos
  have hhd : s.data.toList.head? = some s[0] := by rw [← List.head?_eq_getElem?] at hat0; exact hat0
  have hdz : decide ((0 : Int) < (s.size : Int)) = true := by simp; omega
  cases hn : negB s
  · have h45 : s[0] ≠ 45 := by
      intro e
      unfold negB at hn
      rw [hhd, e] at hn; simp at hn
    have heq : ((s[0].toNat : Int) == 45) = false := by rw [beq_eq_false_iff_ne]; intro e; exact h45 (UInt8.toNat_inj.1 (by have : (45 : UInt8).toNat = 45 := rfl; omega))
    have hb : bodyB s = s := by unfold bodyB; rw [hn]; rfl
    rw [hb] at HF
    have HTs := hs
    have Hn := Lib.hid hn
    clear hb hn h45 hhd hat0 hs0
    cases hd : digitsB s
    · have hp := parse_none_of (s := s) (fun n h => by
        obtain ⟨-, -, -, a, b, -⟩ := HF.out n h
        unfold digitsB at hd
        rw [a, Bool.true_and, decide_eq_false_iff_not] at hd; exact hd b)
      have Hd := Lib.hid hd
      obtain ⟨r1, r2⟩ := Hno.out hp
      have Hr := Lib.hid (show PNum w s (.returned (.tuple #[.int .i64 0, .bool false])) w from ⟨by rw [r1, r2], Below.refl _ _⟩)
      clear r1 r2 hd
      go_enter Tryd.func66, Tryd.ntmps66
      go_wp2_with (fail)
      refine (IsDigits_s _ _ HTs).mono ?_
      rintro e w' ⟨rfl, rfl⟩
      rw [Hd.out]
      go_wp2
      refine bodyPost_ret (v := .tuple #[.int .i64 0, .bool false]) (by simp [results, Tryd.results66, go_sem]) rfl Hr.out
    have Hd := Lib.hid hd
    unfold digitsB at hd
    rw [Bool.and_eq_true] at hd
    have Hdg := Lib.hid hd.1
    clear hd
    by_cases h19 : 19 < s.size
    · have hp := parse_none_of (s := s) (fun n h => by
        obtain ⟨-, -, -, a, b, c⟩ := HF.out n h
        omega)
      obtain ⟨r1, r2⟩ := Hno.out hp
      have Hr := Lib.hid (show PNum w s (.returned (.tuple #[.int .i64 0, .bool false])) w from ⟨by rw [r1, r2], Below.refl _ _⟩)
      clear r1 r2
      go_enter Tryd.func66, Tryd.ntmps66
      go_wp2_with (fail)
      refine (IsDigits_s _ _ HTs).mono ?_
      rintro e w' ⟨rfl, rfl⟩
      rw [Hd.out]
      go_wp2
      refine bodyPost_ret (v := .tuple #[.int .i64 0, .bool false]) (by simp [results, Tryd.results66, go_sem]) rfl Hr.out
    go_enter Tryd.func66, Tryd.ntmps66
    go_wp2_with (fail)
    refine (IsDigits_s _ _ HTs).mono ?_
    rintro e w' ⟨rfl, rfl⟩
    rw [Hd.out]
    go_wp2
    go_loop [6, 7, 8] (fun nv i _ => ∃ (k D : Nat), k ≤ s.size ∧ i = .int .i64 k ∧ D = decV (s.data.toList.take k) ∧ nv = .int .i64 (-(D : Int)) ∧ D ≤ 9223372036854775808) (fun _ i _ => s.size - (intOf i).toNat)
    case atStart => exact ⟨0, 0, Nat.zero_le _, rfl, rfl, rfl, by decide⟩
    case round =>
      obtain ⟨k, D, hk, rfl, hD, rfl, hDb⟩ := hrel
      have HD := Lib.hid hD
      clear hD
      by_cases hlt : k < s.size
      · have hat := ba_at hlt
        have Hat := Lib.hid hat
        have hdg := Hdg.out
        rw [List.all_eq_true] at hdg
        have hc := digB_iff.1 (hdg _ (List.mem_of_getElem? hat))
        obtain ⟨d, hdd⟩ : ∃ d : Nat, d = s[k].toNat - 48 := ⟨_, rfl⟩
        have hd9 : d ≤ 9 := by omega
        have hcd : ((s[k]).toNat : Int) - 48 = (d : Int) := by omega
        have Hst := Lib.hid (show decV (s.data.toList.take (k + 1)) = D * 10 + d from by rw [decV_take hat, HD.out, hdd])
        have Hov := Lib.hid (decV_over hat)
        have hdk : decide ((k : Int) < (s.size : Int)) = true := by simp; omega
        have htd := tdiv10 (n := -9223372036854775808 + (d : Int)) (by omega)
        clear hat hdg hc
        by_cases hov : 9223372036854775808 < D * 10 + d
        · have hp := parse_none_of (s := s) (fun n h => by
            obtain ⟨k1, -, a, -, -, -⟩ := HF.out n h
            have := Hov.out
            have h3 := k1.1
            rw [← HD.out, ← hdd, a] at this
            omega)
          obtain ⟨r1, r2⟩ := Hno.out hp
          have Hr := Lib.hid (show PNum w s (.returned (.tuple #[.int .i64 0, .bool false])) w from ⟨by rw [r1, r2], Below.refl _ _⟩)
          have hte : decide (-(D : Int) < (-9223372036854775808 + (d : Int)).tdiv 10) = true := by simp; omega
          have hw1 : IntKind.i64.wrap ((-9223372036854775808 + (d : Int)).tdiv 10) = (-9223372036854775808 + (d : Int)).tdiv 10 := by rw [IntKind.wrap_i64]; omega
          clear r1 r2 hdd htd
          go_wp2
          refine bodyPost_ret (v := .tuple #[.int .i64 0, .bool false]) (by simp [results, Tryd.results66, go_sem]) rfl Hr.out
        · have hte : decide (-(D : Int) < (-9223372036854775808 + (d : Int)).tdiv 10) = false := by simp; omega
          have hw1 : IntKind.i64.wrap ((-9223372036854775808 + (d : Int)).tdiv 10) = (-9223372036854775808 + (d : Int)).tdiv 10 := by rw [IntKind.wrap_i64]; omega
          clear hdd htd
          go_wp2
          go_round
          case rel => exact ⟨k + 1, D * 10 + d, by omega, by go_num, by rw [Hst.out], by go_num, by omega⟩
          case measure => simp [intOf]; omega
      · have HDf := Lib.hid (show D = decV s.data.toList from by rw [HD.out, List.take_of_length_le (by rw [← ba_size]; omega)])
        have hdk : decide ((k : Int) < (s.size : Int)) = false := by simp; omega
        clear HD
        by_cases hmin : D = 9223372036854775808
        · subst hmin
          have hp := parse_none_of (s := s) (fun n h => by
            obtain ⟨k1, k2, a, -, -, -⟩ := HF.out n h
            rw [← HDf.out] at a
            have h3 := k1.1
            have h4 : ¬ n < 0 := fun hlt => by have := k2.2 hlt; rw [Hn.out] at this; cases this
            omega)
          obtain ⟨r1, r2⟩ := Hno.out hp
          have Hr := Lib.hid (show PNum w s (.returned (.tuple #[.int .i64 0, .bool false])) w from ⟨by rw [r1, r2], Below.refl _ _⟩)
          clear r1 r2
          go_wp2
          refine bodyPost_ret (v := .tuple #[.int .i64 0, .bool false]) (by simp [results, Tryd.results66, go_sem]) rfl Hr.out
        have hI : I64 (D : Int) := ⟨by omega, by omega⟩
        have hmn : ((-(D : Int)) == -9223372036854775808) = false := by rw [beq_eq_false_iff_ne]; omega
        go_wp2_with (fail)
        refine (FormatInt_s _ hI _).mono ?_
        rintro e w2 ⟨rfl, b2⟩
        by_cases hf : fmtInt (D : Int) = s
        · obtain ⟨r1, r2⟩ := parse_yes (parseI_some (s := s) (n := (D : Int)) ⟨hI.out, hf⟩)
          have Hr := Lib.hid (show PNum w s (.returned (.tuple #[.int .i64 (D : Int), .bool true])) w2 from ⟨by rw [r1, r2], b2⟩)
          clear r1 r2
          rw [hf]
          clear hf
          go_wp2
          refine bodyPost_ret (v := .tuple #[.int .i64 (D : Int), .bool true]) (by simp [results, Tryd.results66, go_sem]) rfl Hr.out
        · have hp := parse_none_of (s := s) (fun n h => by
            obtain ⟨k1, k2, a, -, -, -⟩ := HF.out n h
            rw [← HDf.out] at a
            have h4 : ¬ n < 0 := fun hlt => by have := k2.2 hlt; rw [Hn.out] at this; cases this
            have h5 : n = (D : Int) := by omega
            exact hf (by rw [← h5]; exact k1.2))
          obtain ⟨r1, r2⟩ := Hno.out hp
          have Hr := Lib.hid (show PNum w s (.returned (.tuple #[.int .i64 0, .bool false])) w2 from ⟨by rw [r1, r2], b2⟩)
          have hne := ba_neq' hf
          clear r1 r2 hf
          go_wp2
          refine bodyPost_ret (v := .tuple #[.int .i64 0, .bool false]) (by simp [results, Tryd.results66, go_sem]) rfl Hr.out
  · have h45 : s[0] = 45 := by
      unfold negB at hn
      rw [hhd] at hn; simpa using hn
    have heq : ((s[0].toNat : Int) == 45) = true := by rw [h45]; rfl
    have hb : bodyB s = s.extract 1 s.size := by unfold bodyB; rw [hn]; rfl
    obtain ⟨t, ht⟩ : ∃ t, t = s.extract 1 s.size := ⟨_, rfl⟩
    rw [hb, ← ht] at HF
    have Ht := Lib.hid ht
    have HTs : (s.extract 1 s.size).size ≤ 1048576 := Nat.le_trans (extract_size_le _ _ _) hs
    have Hn := Lib.hid hn
    clear hb hn h45 hhd hat0 hs0 ht
    cases hd : digitsB t
    · have hp := parse_none_of (s := s) (fun n h => by
        obtain ⟨-, -, -, a, b, -⟩ := HF.out n h
        unfold digitsB at hd
        rw [a, Bool.true_and, decide_eq_false_iff_not] at hd; exact hd b)
      have Hd := Lib.hid hd
      obtain ⟨r1, r2⟩ := Hno.out hp
      have Hr := Lib.hid (show PNum w s (.returned (.tuple #[.int .i64 0, .bool false])) w from ⟨by rw [r1, r2], Below.refl _ _⟩)
      clear r1 r2 hd
      go_enter Tryd.func66, Tryd.ntmps66
      go_wp2_with (fail)
      refine (IsDigits_s _ _ HTs).mono ?_
      rintro e w' ⟨rfl, rfl⟩
      rw [← Ht.out, Hd.out]
      go_wp2
      refine bodyPost_ret (v := .tuple #[.int .i64 0, .bool false]) (by simp [results, Tryd.results66, go_sem]) rfl Hr.out
    have Hd := Lib.hid hd
    unfold digitsB at hd
    rw [Bool.and_eq_true] at hd
    have Hdg := Lib.hid hd.1
    clear hd
    by_cases h19 : 19 < t.size
    · have hp := parse_none_of (s := s) (fun n h => by
        obtain ⟨-, -, -, a, b, c⟩ := HF.out n h
        omega)
      obtain ⟨r1, r2⟩ := Hno.out hp
      have Hr := Lib.hid (show PNum w s (.returned (.tuple #[.int .i64 0, .bool false])) w from ⟨by rw [r1, r2], Below.refl _ _⟩)
      clear r1 r2
      go_enter Tryd.func66, Tryd.ntmps66
      go_wp2_with (fail)
      refine (IsDigits_s _ _ HTs).mono ?_
      rintro e w' ⟨rfl, rfl⟩
      rw [← Ht.out, Hd.out]
      go_wp2
      refine bodyPost_ret (v := .tuple #[.int .i64 0, .bool false]) (by simp [results, Tryd.results66, go_sem]) rfl Hr.out
    go_enter Tryd.func66, Tryd.ntmps66
    go_wp2_with (fail)
    refine (IsDigits_s _ _ HTs).mono ?_
    rintro e w' ⟨rfl, rfl⟩
    rw [← Ht.out, Hd.out]
    go_wp2
    go_loop [6, 7, 8] (fun nv i _ => ∃ (k D : Nat), k ≤ t.size ∧ i = .int .i64 k ∧ D = decV (t.data.toList.take k) ∧ nv = .int .i64 (-(D : Int)) ∧ D ≤ 9223372036854775808) (fun _ i _ => t.size - (intOf i).toNat)
    case atStart => exact ⟨0, 0, Nat.zero_le _, rfl, rfl, rfl, by decide⟩
    case round =>
      obtain ⟨k, D, hk, rfl, hD, rfl, hDb⟩ := hrel
      have HD := Lib.hid hD
      clear hD
      by_cases hlt : k < t.size
      · have hat := ba_at hlt
        have Hat := Lib.hid hat
        have hdg := Hdg.out
        rw [List.all_eq_true] at hdg
        have hc := digB_iff.1 (hdg _ (List.mem_of_getElem? hat))
        obtain ⟨d, hdd⟩ : ∃ d : Nat, d = t[k].toNat - 48 := ⟨_, rfl⟩
        have hd9 : d ≤ 9 := by omega
        have hcd : ((t[k]).toNat : Int) - 48 = (d : Int) := by omega
        have Hst := Lib.hid (show decV (t.data.toList.take (k + 1)) = D * 10 + d from by rw [decV_take hat, HD.out, hdd])
        have Hov := Lib.hid (decV_over hat)
        have hdk : decide ((k : Int) < (t.size : Int)) = true := by simp; omega
        have htd := tdiv10 (n := -9223372036854775808 + (d : Int)) (by omega)
        clear hat hdg hc
        by_cases hov : 9223372036854775808 < D * 10 + d
        · have hp := parse_none_of (s := s) (fun n h => by
            obtain ⟨k1, -, a, -, -, -⟩ := HF.out n h
            have := Hov.out
            have h3 := k1.1
            rw [← HD.out, ← hdd, a] at this
            omega)
          obtain ⟨r1, r2⟩ := Hno.out hp
          have Hr := Lib.hid (show PNum w s (.returned (.tuple #[.int .i64 0, .bool false])) w from ⟨by rw [r1, r2], Below.refl _ _⟩)
          have hte : decide (-(D : Int) < (-9223372036854775808 + (d : Int)).tdiv 10) = true := by simp; omega
          have hw1 : IntKind.i64.wrap ((-9223372036854775808 + (d : Int)).tdiv 10) = (-9223372036854775808 + (d : Int)).tdiv 10 := by rw [IntKind.wrap_i64]; omega
          clear r1 r2 hdd htd
          go_wp2
          refine bodyPost_ret (v := .tuple #[.int .i64 0, .bool false]) (by simp [results, Tryd.results66, go_sem]) rfl Hr.out
        · have hte : decide (-(D : Int) < (-9223372036854775808 + (d : Int)).tdiv 10) = false := by simp; omega
          have hw1 : IntKind.i64.wrap ((-9223372036854775808 + (d : Int)).tdiv 10) = (-9223372036854775808 + (d : Int)).tdiv 10 := by rw [IntKind.wrap_i64]; omega
          clear hdd htd
          go_wp2
          go_round
          case rel => exact ⟨k + 1, D * 10 + d, by omega, by go_num, by rw [Hst.out], by go_num, by omega⟩
          case measure => simp [intOf]; omega
      · have HDf := Lib.hid (show D = decV t.data.toList from by rw [HD.out, List.take_of_length_le (by rw [← ba_size]; omega)])
        have hdk : decide ((k : Int) < (t.size : Int)) = false := by simp; omega
        clear HD
        have hI : I64 (-(D : Int)) := ⟨by omega, by omega⟩
        go_wp2_with (fail)
        refine (FormatInt_s _ hI _).mono ?_
        rintro e w2 ⟨rfl, b2⟩
        by_cases hf : fmtInt (-(D : Int)) = s
        · obtain ⟨r1, r2⟩ := parse_yes (parseI_some (s := s) (n := -(D : Int)) ⟨hI.out, hf⟩)
          have Hr := Lib.hid (show PNum w s (.returned (.tuple #[.int .i64 (-(D : Int)), .bool true])) w2 from ⟨by rw [r1, r2], b2⟩)
          clear r1 r2
          rw [hf]
          clear hf
          go_wp2
          refine bodyPost_ret (v := .tuple #[.int .i64 (-(D : Int)), .bool true]) (by simp [results, Tryd.results66, go_sem]) rfl Hr.out
        · have hp := parse_none_of (s := s) (fun n h => by
            obtain ⟨k1, k2, a, -, -, -⟩ := HF.out n h
            rw [← HDf.out] at a
            have h4 : n < 0 := k2.1 Hn.out
            have h5 : n = -(D : Int) := by omega
            exact hf (by rw [← h5]; exact k1.2))
          obtain ⟨r1, r2⟩ := Hno.out hp
          have Hr := Lib.hid (show PNum w s (.returned (.tuple #[.int .i64 0, .bool false])) w2 from ⟨by rw [r1, r2], b2⟩)
          have hne := ba_neq' hf
          clear r1 r2 hf
          go_wp2
          refine bodyPost_ret (v := .tuple #[.int .i64 0, .bool false]) (by simp [results, Tryd.results66, go_sem]) rfl Hr.out
end Go.Proofs.YtekgnpdchpdfiaaDoor

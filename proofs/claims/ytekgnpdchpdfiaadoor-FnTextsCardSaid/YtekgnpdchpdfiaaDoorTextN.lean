/- Numbers out of texts: plain. -/
import Derived.Test.YtekgnpdchpdfiaaDoorText
import Derived.Lib.AtoiAll
namespace Go.Proofs.YtekgnpdchpdfiaaDoor
open Go

def decF (a : Nat) (l : List UInt8) : Nat := l.foldl (fun a b => a * 10 + (b.toNat - 48)) a
def decV (l : List UInt8) : Nat := decF 0 l
def digB (b : UInt8) : Bool := decide (48 ≤ b.toNat) && decide (b.toNat ≤ 57)
theorem decF_cons (a : Nat) (b : UInt8) (l : List UInt8) : decF a (b :: l) = decF (a * 10 + (b.toNat - 48)) l := by unfold decF; rw [List.foldl_cons]
theorem decF_snoc (a : Nat) (b : UInt8) (l : List UInt8) : decF a (l ++ [b]) = decF a l * 10 + (b.toNat - 48) := by simp [decF, List.foldl_append]
theorem decF_ge (l : List UInt8) : ∀ a, a ≤ decF a l := by
  induction l with
  | nil => intro a; exact Nat.le_refl _
  | cons b l ih => intro a; have := ih (a * 10 + (b.toNat - 48)); rw [decF_cons]; omega
theorem decF_append (a : Nat) (l m : List UInt8) : decF a (l ++ m) = decF (decF a l) m := by simp [decF, List.foldl_append]
theorem decV_take_le (l : List UInt8) (k : Nat) : decV (l.take k) ≤ decV l := by
  have h := decF_append 0 (l.take k) (l.drop k)
  rw [List.take_append_drop] at h
  have h2 := decF_ge (l.drop k) (decF 0 (l.take k))
  unfold decV; omega
theorem decV_take {l : List UInt8} {k : Nat} {b : UInt8} (h : l[k]? = some b) : decV (l.take (k + 1)) = decV (l.take k) * 10 + (b.toNat - 48) := by
  rw [List.take_add_one, h]; exact decF_snoc _ _ _
theorem digit_nat {d : Nat} (h : d < 10) : (UInt8.ofNat (48 + d)).toNat = 48 + d := by
  rw [UInt8.toNat_ofNat']; omega
theorem decDigits_fact (u : Nat) : decV (Lib.decDigits u) = u ∧ (Lib.decDigits u).all digB = true ∧ Lib.decDigits u ≠ [] := by
  induction u using Nat.strongRecOn with
  | ind u ih =>
    rw [Lib.decDigits]
    split
    · rename_i h
      refine ⟨?_, ?_, by simp⟩
      · unfold decV; rw [decF_cons, digit_nat h]; simp [decF]
      · simp only [List.all_cons, List.all_nil, Bool.and_true, digB, digit_nat h]; simp; omega
    · rename_i h
      obtain ⟨h1, h2, h3⟩ := ih (u / 10) (by omega)
      have hd : u % 10 < 10 := by omega
      refine ⟨?_, ?_, by simp⟩
      · unfold decV at h1 ⊢; rw [decF_snoc, h1, digit_nat hd]; omega
      · rw [List.all_append, h2]; simp only [List.all_cons, List.all_nil, Bool.and_true, Bool.true_and, digB, digit_nat hd]; simp; omega
theorem digits_head (u : Nat) : ∃ b l, Lib.decDigits u = b :: l ∧ digB b = true := by
  obtain ⟨-, h2, h3⟩ := decDigits_fact u
  match h : Lib.decDigits u with
  | [] => exact absurd h h3
  | b :: l => rw [h] at h2; simp at h2; exact ⟨b, l, rfl, h2.1⟩
theorem digB_iff {b : UInt8} : digB b = true ↔ 48 ≤ b.toNat ∧ b.toNat ≤ 57 := by simp [digB]
theorem itoa_head (n : Int) : (n < 0 → Lib.itoa n = 45 :: Lib.decDigits n.natAbs) ∧ (0 ≤ n → Lib.itoa n = Lib.decDigits n.natAbs) := by
  refine ⟨fun h => by unfold Lib.itoa; rw [if_pos h], fun h => ?_⟩
  unfold Lib.itoa; rw [if_neg (by omega)]
  have : n.toNat = n.natAbs := by omega
  rw [this]
theorem itoa_inj {n m : Int} (h : Lib.itoa n = Lib.itoa m) : n = m := by
  have key : ∀ u : Nat, ∀ v : Nat, Lib.decDigits u ≠ 45 :: Lib.decDigits v := by
    intro u v he
    obtain ⟨b, l, hb, hd⟩ := digits_head u
    rw [hb] at he
    have := (List.cons.inj he).1
    subst this; simp [digB] at hd
  have dinj : ∀ u v : Nat, Lib.decDigits u = Lib.decDigits v → u = v := by
    intro u v he
    have h1 := (decDigits_fact u).1
    have h2 := (decDigits_fact v).1
    rw [he] at h1; omega
  rcases Int.lt_or_le n 0 with hn | hn <;> rcases Int.lt_or_le m 0 with hm | hm
  · rw [(itoa_head n).1 hn, (itoa_head m).1 hm] at h
    have := dinj _ _ (List.cons.inj h).2; omega
  · rw [(itoa_head n).1 hn, (itoa_head m).2 hm] at h; exact absurd h.symm (key _ _)
  · rw [(itoa_head n).2 hn, (itoa_head m).1 hm] at h; exact absurd h (key _ _)
  · rw [(itoa_head n).2 hn, (itoa_head m).2 hm] at h
    have := dinj _ _ h; omega
theorem fmtInt_inj {n m : Int} (h : fmtInt n = fmtInt m) : n = m := by
  apply itoa_inj
  have := congrArg (fun b : ByteArray => b.data.toList) h
  exact this
theorem parseUint_of (l : List UInt8) : ∀ a, l.all digB = true → decF a l < 18446744073709551616 → Lib.parseUint10 a l = .ok (decF a l) := by
  induction l with
  | nil => intro a _ _; rfl
  | cons b l ih =>
    intro a h hlt
    rw [List.all_cons, Bool.and_eq_true] at h
    have hb := digB_iff.1 h.1
    rw [decF_cons] at hlt ⊢
    have hge := decF_ge l (a * 10 + (b.toNat - 48))
    unfold Lib.parseUint10
    rw [if_pos hb, if_neg (by omega), if_neg (by omega)]
    exact ih _ h.2 hlt
theorem atoi_itoa {n : Int} (h1 : -9223372036854775808 ≤ n) (h2 : n ≤ 9223372036854775807) : Lib.atoiAll (Lib.itoa n) = .ok n := by
  obtain ⟨d1, d2, d3⟩ := decDigits_fact n.natAbs
  have hm : Lib.parseMag (Lib.decDigits n.natAbs) = .ok n.natAbs := by
    unfold Lib.parseMag; rw [if_neg d3, parseUint_of _ _ d2 (by unfold decV at d1; omega)]
    unfold decV at d1; rw [d1]
  rcases Int.lt_or_le n 0 with hn | hn
  · rw [(itoa_head n).1 hn]
    unfold Lib.atoiAll
    simp only [show (45 : UInt8).toNat = 45 from rfl, or_true, if_true]
    rw [hm]
    simp only [not_true_eq_false, false_and, if_false, true_and]
    rw [if_neg (by omega)]
    have : -(n.natAbs : Int) = n := by omega
    rw [this]
  · rw [(itoa_head n).2 hn]
    obtain ⟨b, l, hb, hd⟩ := digits_head n.natAbs
    have hb2 := digB_iff.1 hd
    rw [hb] at hm ⊢
    unfold Lib.atoiAll
    have e1 : ¬ (b.toNat = 43 ∨ b.toNat = 45) := by omega
    have e2 : ¬ (b.toNat = 45) := by omega
    simp only [if_neg e1]
    rw [hm]
    simp only [e2, not_false_eq_true, true_and, false_and, if_false]
    rw [if_neg (by omega)]
    have : (n.natAbs : Int) = n := by omega
    rw [this]

/-- what a text says as a number: the number whose text it is -/
def IsNum (s : ByteArray) (n : Int) : Prop := (-9223372036854775808 ≤ n ∧ n ≤ 9223372036854775807) ∧ fmtInt n = s
open Classical in
noncomputable def parseI (s : ByteArray) : Option Int := if h : ∃ n, IsNum s n then some h.choose else none
theorem IsNum.uniq {s : ByteArray} {n m : Int} (h : IsNum s n) (k : IsNum s m) : n = m := fmtInt_inj (h.2.trans k.2.symm)
theorem parseI_some {s : ByteArray} {n : Int} (h : IsNum s n) : parseI s = some n := by
  unfold parseI
  have hex : ∃ n, IsNum s n := ⟨n, h⟩
  rw [dif_pos hex, hex.choose_spec.uniq h]
theorem parseI_num {s : ByteArray} {n : Int} (h : parseI s = some n) : IsNum s n := by
  unfold parseI at h
  split at h
  · rename_i hex; rw [← Option.some.inj h]; exact hex.choose_spec
  · cases h
theorem parseI_none {s : ByteArray} (h : parseI s = none) (n : Int) : ¬ IsNum s n := fun k => by rw [parseI_some k] at h; cases h
theorem parseI_atoi {s : ByteArray} {n : Int} (h : parseI s = some n) : Lib.atoiAll s.data.toList = .ok n := by
  have k := parseI_num h
  rw [← k.2]; exact atoi_itoa k.1.1 k.1.2
/-- what the digits of a number's text are -/
theorem IsNum.pos {s : ByteArray} {n : Int} (h : IsNum s n) (h0 : 0 ≤ n) : decV s.data.toList = n.natAbs ∧ s.data.toList.all digB = true ∧ 0 < s.size ∧ s.size ≤ 19 := by
  obtain ⟨hI, rfl⟩ := h
  obtain ⟨d1, d2, d3⟩ := decDigits_fact n.natAbs
  have e : (fmtInt n).data.toList = Lib.decDigits n.natAbs := (itoa_head n).2 h0
  rw [ba_size, e]
  have := decDigits_len n.natAbs 18 (by omega)
  exact ⟨d1, d2, List.length_pos_iff.2 d3, this⟩
theorem IsNum.neg {s : ByteArray} {n : Int} (h : IsNum s n) (h0 : n < 0) : ∃ l, s.data.toList = 45 :: l ∧ decV l = n.natAbs ∧ l.all digB = true ∧ 0 < l.length ∧ l.length ≤ 19 := by
  obtain ⟨hI, rfl⟩ := h
  obtain ⟨d1, d2, d3⟩ := decDigits_fact n.natAbs
  refine ⟨Lib.decDigits n.natAbs, (itoa_head n).1 h0, d1, d2, List.length_pos_iff.2 d3, decDigits_len n.natAbs 18 (by omega)⟩
end Go.Proofs.YtekgnpdchpdfiaaDoor

/- Contracts and plain laws that the claims on sessions use. No condition of their own. -/
import Derived.Lib.Join
import Derived.Lib.ItoaNum
import Derived.Lib.AtoiAll
import Derived.Test.YthmocomfjgmjoaaGreatDoorQ02
import Derived.Lib.Strings
import Derived.Lib.Slices
import Derived.Lib.Walk
import Derived.Lib.Bytealg
import Derived.Laws.BytesString
import Derived.Deep.RegionWith
import Derived.Deep.DeepFit
import Derived.Test.YthmocomfjgmjoaaGreatDoorQ00
import Derived.Lib.LaidTab
set_option maxHeartbeats 1000000
set_option maxRecDepth 100000
namespace Go.Proofs.YthmocomfjgmjoaaGreatDoor
open Go
theorem ba_ext {a b : ByteArray} (h : a.data.toList = b.data.toList) : a = b := by
  cases a; cases b; simp at h; simp [h]
theorem ba_list_append (a b : ByteArray) : (a ++ b).data.toList = a.data.toList ++ b.data.toList := by
  rw [ByteArray.data_append, Array.toList_append]
theorem ba_size (a : ByteArray) : a.size = a.data.toList.length := rfl
theorem ba_append_size (a b : ByteArray) : (a ++ b).size = a.size + b.size := by simp
theorem ba_at {a : ByteArray} {k : Nat} (h : k < a.size) : a.data.toList[k]? = some (a[k]'h) := by
  rw [Array.getElem?_toList]; exact Array.getElem?_eq_getElem h
theorem ba_extract (a : ByteArray) (i j : Nat) : (a.extract i j).data.toList = (a.data.toList.drop i).take (j - i) := by
  simp [ByteArray.data_extract]
def joinB (sep : ByteArray) (xs : List ByteArray) : ByteArray := ⟨(Lib.join (xs.map (·.data.toList)) sep.data.toList).toArray⟩
theorem joinB_nil (sep : ByteArray) : joinB sep [] = ByteArray.empty := rfl
theorem joinB_one (sep x : ByteArray) : joinB sep [x] = x := by
  unfold joinB; simp only [List.map_cons, List.map_nil, Lib.join_one]
theorem joinB_snoc (sep x : ByteArray) {xs : List ByteArray} (h : xs ≠ []) : joinB sep (xs ++ [x]) = joinB sep xs ++ sep ++ x := by
  cases xs with
  | nil => exact absurd rfl h
  | cons y r =>
    apply ba_ext
    rw [ba_list_append, ba_list_append]
    unfold joinB
    simp only [List.cons_append, List.map_cons, List.map_append, List.map_nil]
    rw [Lib.join_cons, Lib.join_cons]
    simp [Lib.joinTail, List.append_assoc]
def bulkB (sep : ByteArray) : List ByteArray → Nat
  | [] => 0
  | x :: r => x.size + sep.size + bulkB sep r
theorem bulkB_tail (sep : ByteArray) (r : List ByteArray) : (Lib.joinTail sep.data.toList (r.map (·.data.toList))).length = bulkB sep r := by
  induction r with
  | nil => simp [Lib.joinTail, bulkB]
  | cons y r ih =>
    simp only [Lib.joinTail, List.map_cons, List.flatten_cons, List.length_append] at ih ⊢
    rw [ih]; simp only [bulkB, ba_size]; omega
theorem joinB_size (sep : ByteArray) (xs : List ByteArray) : (joinB sep xs).size ≤ bulkB sep xs := by
  cases xs with
  | nil => simp [joinB_nil]
  | cons x r =>
    rw [ba_size]; unfold joinB
    simp only [List.map_cons]
    rw [Lib.join_cons, List.length_append, bulkB_tail]
    simp only [bulkB, ba_size]; omega
theorem bulkB_le (sep : ByteArray) {xs : List ByteArray} {m : Nat} (h : ∀ x ∈ xs, x.size ≤ m) : bulkB sep xs ≤ xs.length * (m + sep.size) := by
  induction xs with
  | nil => simp [bulkB]
  | cons x r ih =>
    have h1 := h x (by simp)
    have h2 := ih (fun y hy => h y (by simp [hy]))
    simp only [bulkB, List.length_cons, Nat.succ_mul]
    omega
def splitSt (s : ByteArray) (b : UInt8) : Nat → List ByteArray × Nat
  | 0 => ([], 0)
  | k + 1 => if s.data.toList[k]? = some b then ((splitSt s b k).1 ++ [s.extract (splitSt s b k).2 k], k + 1) else splitSt s b k
def splitB (s : ByteArray) (b : UInt8) : List ByteArray := (splitSt s b s.size).1 ++ [s.extract (splitSt s b s.size).2 s.size]
theorem splitSt_le (s : ByteArray) (b : UInt8) (k : Nat) : (splitSt s b k).2 ≤ k := by
  induction k with
  | zero => simp [splitSt]
  | succ k ih => unfold splitSt; split
                 · exact Nat.le_refl _
                 · omega
theorem splitSt_len (s : ByteArray) (b : UInt8) (k : Nat) : (splitSt s b k).1.length ≤ k := by
  induction k with
  | zero => simp [splitSt]
  | succ k ih =>
    unfold splitSt; split
    · simp only [List.length_append, List.length_cons, List.length_nil]; omega
    · omega
theorem splitB_len (s : ByteArray) (b : UInt8) : (splitB s b).length ≤ s.size + 1 := by
  have := splitSt_len s b s.size
  simp only [splitB, List.length_append, List.length_cons, List.length_nil]; omega
theorem splitSt_join (s : ByteArray) (b : UInt8) (k : Nat) (hk : k ≤ s.size) : joinB ⟨#[b]⟩ ((splitSt s b k).1 ++ [s.extract (splitSt s b k).2 k]) = s.extract 0 k ∧
    (∀ p ∈ (splitSt s b k).1, ∀ x ∈ p.data.toList, x ≠ b ∧ x ∈ s.data.toList) ∧ ∀ x ∈ (s.extract (splitSt s b k).2 k).data.toList, x ≠ b := by
  induction k with
  | zero =>
    refine ⟨by simp [splitSt, joinB_one], by simp [splitSt], ?_⟩
    intro x hx; rw [ba_extract] at hx; simp [splitSt] at hx
  | succ k ih =>
    obtain ⟨h1, h2, h3⟩ := ih (by omega)
    have hat := ba_at (a := s) (k := k) (by omega)
    have hcut : ∀ i, i ≤ k → (s.extract i (k + 1)) = s.extract i k ++ ⟨#[s[k]'(by omega)]⟩ := by
      intro i hi
      apply ba_ext
      rw [ba_list_append, ba_extract, ba_extract]
      have e : k + 1 - i = (k - i) + 1 := by omega
      rw [e, List.take_add_one, List.getElem?_drop]
      have e2 : i + (k - i) = k := by omega
      rw [e2, hat]; rfl
    have hle := splitSt_le s b k
    unfold splitSt
    by_cases hb : s.data.toList[k]? = some b
    · rw [if_pos hb]
      have hbk : s[k]'(by omega) = b := by rw [hat] at hb; exact Option.some.inj hb
      have hemp : s.extract (k + 1) (k + 1) = ByteArray.empty := by
        apply ba_ext; rw [ba_extract]; simp
      dsimp only
      refine ⟨?_, ?_, ?_⟩
      · rw [hemp, joinB_snoc _ _ (by simp), h1, hcut 0 (by omega), hbk]
        apply ba_ext; simp
      · intro p hp
        rw [List.mem_append] at hp
        rcases hp with hp | hp
        · exact h2 p hp
        · simp at hp; subst hp
          intro x hx
          refine ⟨h3 x hx, ?_⟩
          rw [ba_extract] at hx
          exact List.mem_of_mem_drop (List.mem_of_mem_take hx)
      · intro x hx; rw [hemp] at hx; simp at hx
    · rw [if_neg hb]
      have hbk : s[k]'(by omega) ≠ b := fun h => hb (by rw [hat, h])
      refine ⟨?_, h2, ?_⟩
      · rw [hcut _ hle, hcut 0 (by omega), ← h1]
        by_cases hn : (splitSt s b k).1 = []
        · rw [hn]; simp [joinB_one]
        · rw [joinB_snoc _ _ hn, joinB_snoc _ _ hn]
          apply ba_ext; simp [List.append_assoc]
      · intro x hx
        rw [hcut _ hle, ba_list_append, List.mem_append] at hx
        rcases hx with hx | hx
        · exact h3 x hx
        · simp at hx; subst hx; exact hbk
theorem splitB_join (s : ByteArray) (b : UInt8) : joinB ⟨#[b]⟩ (splitB s b) = s := by
  have h := (splitSt_join s b s.size (Nat.le_refl _)).1
  unfold splitB; rw [h]
  apply ba_ext; rw [ba_extract, List.drop_zero, Nat.sub_zero, List.take_of_length_le (Nat.le_of_eq (ba_size s).symm)]
theorem splitB_parts (s : ByteArray) (b : UInt8) : ∀ p ∈ splitB s b, ∀ x ∈ p.data.toList, x ≠ b ∧ x ∈ s.data.toList := by
  obtain ⟨-, h2, h3⟩ := splitSt_join s b s.size (Nat.le_refl _)
  intro p hp
  unfold splitB at hp
  rw [List.mem_append] at hp
  rcases hp with hp | hp
  · exact h2 p hp
  · simp at hp; subst hp
    intro x hx
    refine ⟨h3 x hx, ?_⟩
    rw [ba_extract] at hx
    exact List.mem_of_mem_drop (List.mem_of_mem_take hx)
theorem splitB_pos (s : ByteArray) (b : UInt8) : 0 < (splitB s b).length := by simp [splitB]
theorem extract_size_le (s : ByteArray) (i j : Nat) : (s.extract i j).size ≤ s.size := by
  rw [ba_size, ba_size, ba_extract, List.length_take, List.length_drop]; omega
theorem splitB_part_size (s : ByteArray) (b : UInt8) : ∀ p ∈ splitB s b, p.size ≤ s.size := by
  have hst : ∀ k, ∀ p ∈ (splitSt s b k).1, p.size ≤ s.size := by
    intro k
    induction k with
    | zero => simp [splitSt]
    | succ k ih =>
      unfold splitSt; split
      · intro p hp
        rw [List.mem_append] at hp
        rcases hp with hp | hp
        · exact ih p hp
        · simp at hp; subst hp; exact extract_size_le _ _ _
      · exact ih
  intro p hp
  unfold splitB at hp
  rw [List.mem_append] at hp
  rcases hp with hp | hp
  · exact hst _ p hp
  · simp at hp; subst hp; exact extract_size_le _ _ _
def sgn (c : Int) : ByteArray := if c = 0 then ⟨#[46]⟩ else if c = 1 then ⟨#[35]⟩ else ⟨#[63]⟩
def signRow (r : List Int) : ByteArray := r.foldl (fun s c => s ++ sgn c) ByteArray.empty
theorem sgn_size (c : Int) : (sgn c).size = 1 := by unfold sgn; split; · rfl
                                                    · split <;> rfl
theorem signRow_snoc (r : List Int) (c : Int) : signRow (r ++ [c]) = signRow r ++ sgn c := by simp [signRow, List.foldl_append]
theorem signRow_take {r : List Int} {k : Nat} {x : Int} (h : r[k]? = some x) : signRow (r.take (k + 1)) = signRow (r.take k) ++ sgn x := by
  rw [List.take_add_one, h]; exact signRow_snoc _ _
theorem foldl_size (r : List Int) : ∀ s : ByteArray, (r.foldl (fun s c => s ++ sgn c) s).size = s.size + r.length := by
  induction r with
  | nil => intro s; simp
  | cons c r ih => intro s; rw [List.foldl_cons, ih, ba_append_size, sgn_size, List.length_cons]; omega
theorem signRow_size (r : List Int) : (signRow r).size = r.length := by unfold signRow; rw [foldl_size]; simp
def signsOf (m : List (List Int)) : ByteArray := joinB ⟨#[47]⟩ (m.map signRow)
def cellB (b : UInt8) : Int := if b = 35 then 1 else 0
def rowB (s : ByteArray) : List Int := s.data.toList.map cellB
def plainB (s : ByteArray) : Bool := s.data.toList.all fun b => b == 35 || b == 46
def fmtInt (n : Int) : ByteArray := ⟨(Lib.itoa n).toArray⟩
theorem decDigits_len (u : Nat) : ∀ k, u < 10 ^ (k + 1) → (Lib.decDigits u).length ≤ k + 1 := by
  intro k
  induction k generalizing u with
  | zero => intro h; rw [Lib.decDigits_one (by omega)]; simp
  | succ k ih =>
    intro h
    rw [Lib.decDigits]
    split
    · simp
    · rw [List.length_append]
      have := ih (u / 10) (by rw [Nat.pow_succ] at h; omega)
      simp; omega
theorem fmt_size {n : Int} (h : -9223372036854775808 ≤ n ∧ n ≤ 9223372036854775807) : (fmtInt n).size ≤ 20 := by
  rw [ba_size]; unfold fmtInt Lib.itoa
  have hb : ∀ u : Nat, u ≤ 9223372036854775808 → (Lib.decDigits u).length ≤ 19 := fun u hu => decDigits_len u 18 (by omega)
  split
  · have := hb n.natAbs (by omega); simp; omega
  · have := hb n.toNat (by omega); simp; omega
def decF (a : Nat) (l : List UInt8) : Nat := l.foldl (fun a b => a * 10 + (b.toNat - 48)) a
def decV (l : List UInt8) : Nat := decF 0 l
def digB (b : UInt8) : Bool := decide (48 ≤ b.toNat) && decide (b.toNat ≤ 57)
theorem decF_cons (a : Nat) (b : UInt8) (l : List UInt8) : decF a (b :: l) = decF (a * 10 + (b.toNat - 48)) l := by unfold decF; rw [List.foldl_cons]
theorem decF_snoc (a : Nat) (b : UInt8) (l : List UInt8) : decF a (l ++ [b]) = decF a l * 10 + (b.toNat - 48) := by simp [decF, List.foldl_append]
theorem decF_ge (l : List UInt8) : ∀ a, a ≤ decF a l := by
  induction l with
  | nil => intro a; exact Nat.le_refl _
  | cons b l ih => intro a; have := ih (a * 10 + (b.toNat - 48)); rw [decF_cons]; omega
theorem digit_nat {d : Nat} (h : d < 10) : (UInt8.ofNat (48 + d)).toNat = 48 + d := by
  rw [UInt8.toNat_ofNat']; omega
theorem decDigits_fact (u : Nat) : decV (Lib.decDigits u) = u ∧ (Lib.decDigits u).all digB = true ∧ Lib.decDigits u ≠ [] := by
  induction u using Nat.strongRecOn with
  | ind u ih =>
    rw [Lib.decDigits]
    split
    · rename_i h
      refine ⟨?_, ?_, by simp⟩
      · unfold decV; rw [decF_cons, digit_nat h]; simp [decF]
      · simp only [List.all_cons, List.all_nil, Bool.and_true, digB, digit_nat h]; simp; omega
    · rename_i h
      obtain ⟨h1, h2, h3⟩ := ih (u / 10) (by omega)
      have hd : u % 10 < 10 := by omega
      refine ⟨?_, ?_, by simp⟩
      · unfold decV at h1 ⊢; rw [decF_snoc, h1, digit_nat hd]; omega
      · rw [List.all_append, h2]; simp only [List.all_cons, List.all_nil, Bool.and_true, Bool.true_and, digB, digit_nat hd]; simp; omega
theorem digits_head (u : Nat) : ∃ b l, Lib.decDigits u = b :: l ∧ digB b = true := by
  obtain ⟨-, h2, h3⟩ := decDigits_fact u
  match h : Lib.decDigits u with
  | [] => exact absurd h h3
  | b :: l => rw [h] at h2; simp at h2; exact ⟨b, l, rfl, h2.1⟩
theorem digB_iff {b : UInt8} : digB b = true ↔ 48 ≤ b.toNat ∧ b.toNat ≤ 57 := by simp [digB]
theorem itoa_head (n : Int) : (n < 0 → Lib.itoa n = 45 :: Lib.decDigits n.natAbs) ∧ (0 ≤ n → Lib.itoa n = Lib.decDigits n.natAbs) := by
  refine ⟨fun h => by unfold Lib.itoa; rw [if_pos h], fun h => ?_⟩
  unfold Lib.itoa; rw [if_neg (by omega)]
  have : n.toNat = n.natAbs := by omega
  rw [this]
theorem itoa_inj {n m : Int} (h : Lib.itoa n = Lib.itoa m) : n = m := by
  have key : ∀ u : Nat, ∀ v : Nat, Lib.decDigits u ≠ 45 :: Lib.decDigits v := by
    intro u v he
    obtain ⟨b, l, hb, hd⟩ := digits_head u
    rw [hb] at he
    have := (List.cons.inj he).1
    subst this; simp [digB] at hd
  have dinj : ∀ u v : Nat, Lib.decDigits u = Lib.decDigits v → u = v := by
    intro u v he
    have h1 := (decDigits_fact u).1
    have h2 := (decDigits_fact v).1
    rw [he] at h1; omega
  rcases Int.lt_or_le n 0 with hn | hn <;> rcases Int.lt_or_le m 0 with hm | hm
  · rw [(itoa_head n).1 hn, (itoa_head m).1 hm] at h
    have := dinj _ _ (List.cons.inj h).2; omega
  · rw [(itoa_head n).1 hn, (itoa_head m).2 hm] at h; exact absurd h.symm (key _ _)
  · rw [(itoa_head n).2 hn, (itoa_head m).1 hm] at h; exact absurd h (key _ _)
  · rw [(itoa_head n).2 hn, (itoa_head m).2 hm] at h
    have := dinj _ _ h; omega
theorem fmtInt_inj {n m : Int} (h : fmtInt n = fmtInt m) : n = m := by
  apply itoa_inj
  have := congrArg (fun b : ByteArray => b.data.toList) h
  exact this
theorem parseUint_of (l : List UInt8) : ∀ a, l.all digB = true → decF a l < 18446744073709551616 → Lib.parseUint10 a l = .ok (decF a l) := by
  induction l with
  | nil => intro a _ _; rfl
  | cons b l ih =>
    intro a h hlt
    rw [List.all_cons, Bool.and_eq_true] at h
    have hb := digB_iff.1 h.1
    rw [decF_cons] at hlt ⊢
    have hge := decF_ge l (a * 10 + (b.toNat - 48))
    unfold Lib.parseUint10
    rw [if_pos hb, if_neg (by omega), if_neg (by omega)]
    exact ih _ h.2 hlt
theorem atoi_itoa {n : Int} (h1 : -9223372036854775808 ≤ n) (h2 : n ≤ 9223372036854775807) : Lib.atoiAll (Lib.itoa n) = .ok n := by
  obtain ⟨d1, d2, d3⟩ := decDigits_fact n.natAbs
  have hm : Lib.parseMag (Lib.decDigits n.natAbs) = .ok n.natAbs := by
    unfold Lib.parseMag; rw [if_neg d3, parseUint_of _ _ d2 (by unfold decV at d1; omega)]
    unfold decV at d1; rw [d1]
  rcases Int.lt_or_le n 0 with hn | hn
  · rw [(itoa_head n).1 hn]
    unfold Lib.atoiAll
    simp only [show (45 : UInt8).toNat = 45 from rfl, or_true, if_true]
    rw [hm]
    simp only [not_true_eq_false, false_and, if_false, true_and]
    rw [if_neg (by omega)]
    have : -(n.natAbs : Int) = n := by omega
    rw [this]
  · rw [(itoa_head n).2 hn]
    obtain ⟨b, l, hb, hd⟩ := digits_head n.natAbs
    have hb2 := digB_iff.1 hd
    rw [hb] at hm ⊢
    unfold Lib.atoiAll
    have e1 : ¬ (b.toNat = 43 ∨ b.toNat = 45) := by omega
    have e2 : ¬ (b.toNat = 45) := by omega
    simp only [if_neg e1]
    rw [hm]
    simp only [e2, not_false_eq_true, true_and, false_and, if_false]
    rw [if_neg (by omega)]
    have : (n.natAbs : Int) = n := by omega
    rw [this]
def IsNum (s : ByteArray) (n : Int) : Prop := (-9223372036854775808 ≤ n ∧ n ≤ 9223372036854775807) ∧ fmtInt n = s
open Classical in
noncomputable def parseI (s : ByteArray) : Option Int := if h : ∃ n, IsNum s n then some h.choose else none
theorem IsNum.uniq {s : ByteArray} {n m : Int} (h : IsNum s n) (k : IsNum s m) : n = m := fmtInt_inj (h.2.trans k.2.symm)
theorem parseI_some {s : ByteArray} {n : Int} (h : IsNum s n) : parseI s = some n := by
  unfold parseI
  have hex : ∃ n, IsNum s n := ⟨n, h⟩
  rw [dif_pos hex, hex.choose_spec.uniq h]
theorem parseI_num {s : ByteArray} {n : Int} (h : parseI s = some n) : IsNum s n := by
  unfold parseI at h
  split at h
  · rename_i hex; rw [← Option.some.inj h]; exact hex.choose_spec
  · cases h
theorem parseI_atoi {s : ByteArray} {n : Int} (h : parseI s = some n) : Lib.atoiAll s.data.toList = .ok n := by
  have k := parseI_num h
  rw [← k.2]; exact atoi_itoa k.1.1 k.1.2
theorem IsNum.pos {s : ByteArray} {n : Int} (h : IsNum s n) (h0 : 0 ≤ n) : decV s.data.toList = n.natAbs ∧ s.data.toList.all digB = true ∧ 0 < s.size ∧ s.size ≤ 19 := by
  obtain ⟨hI, rfl⟩ := h
  obtain ⟨d1, d2, d3⟩ := decDigits_fact n.natAbs
  have e : (fmtInt n).data.toList = Lib.decDigits n.natAbs := (itoa_head n).2 h0
  rw [ba_size, e]
  have := decDigits_len n.natAbs 18 (by omega)
  exact ⟨d1, d2, List.length_pos_iff.2 d3, this⟩
theorem IsNum.neg {s : ByteArray} {n : Int} (h : IsNum s n) (h0 : n < 0) : ∃ l, s.data.toList = 45 :: l ∧ decV l = n.natAbs ∧ l.all digB = true ∧ 0 < l.length ∧ l.length ≤ 19 := by
  obtain ⟨hI, rfl⟩ := h
  obtain ⟨d1, d2, d3⟩ := decDigits_fact n.natAbs
  refine ⟨Lib.decDigits n.natAbs, (itoa_head n).1 h0, d1, d2, List.length_pos_iff.2 d3, decDigits_len n.natAbs 18 (by omega)⟩
end Go.Proofs.YthmocomfjgmjoaaGreatDoor
namespace Go.Proofs.YthmocomfjgmjoaaGreatDoor
open Go.RowKit
theorem infoStr : (Tryz.prog.info? 9).map (fun i => (i.zero, i.size, i.bytes)) = some (some (.string ⟨#[]⟩), 1, 16) := by kernel_rfl
theorem idxByte_lite (s : ByteArray) (c : Int) (w : World) :
    Calls Tryz.prog 153 #[.string s, .int .u8 c] w fun e w' => e = .returned (.int .i64 (Lib.indexByte s.data.toList c.toNat.toUInt8)) ∧ w' = w := by
  go_enter Tryz.func153, Tryz.ntmps153
  go_wp2
  rw [run_callFunc_extern Tryz.func218 (by kernel_rfl) (by kernel_rfl) (by kernel_rfl) (e := Extern.BytealgIndexByte.indexByte) (by kernel_rfl), Lib.run_indexByteString]
  simp only [Result.andThen]
  rw [Oper.upon_value]
  go_wp2
  go_ret
  exact ⟨rfl, rfl⟩
theorem idxByte_c (s : ByteArray) (c : Int) (w : World) :
    Calls Tryz.prog 78 #[.string s, .int .u8 c] w fun e w' => e = .returned (.int .i64 (Lib.indexByte s.data.toList c.toNat.toUInt8)) ∧ w' = w := by
  go_enter Tryz.func78, Tryz.ntmps78
  go_wp2_with (go_at_call 153; refine (idxByte_lite _ _ _).mono ?_; rintro e w' ⟨rfl, rfl⟩)
  go_ret
  exact ⟨rfl, rfl⟩
theorem idxByte_hit {b c : UInt8} (h : c = b) (w : World) : Calls Tryz.prog 78 #[.string ⟨#[b]⟩, .int .u8 c.toNat] w fun e w' => e = .returned (.int .i64 0) ∧ w = w' :=
  (idxByte_c _ _ w).mono fun e w' ⟨h1, h2⟩ => ⟨by rw [h1]; subst h; simp [Lib.indexByte], h2.symm⟩
theorem idxByte_miss {b c : UInt8} (h : c ≠ b) (w : World) : Calls Tryz.prog 78 #[.string ⟨#[b]⟩, .int .u8 c.toNat] w fun e w' => e = .returned (.int .i64 (-1)) ∧ w = w' :=
  (idxByte_c _ _ w).mono fun e w' ⟨h1, h2⟩ => ⟨by rw [h1]; have h3 : (b == c) = false := by simpa using fun e => h e.symm
                                                  simp [Lib.indexByte, h3], h2.symm⟩
theorem splitSt_hit {s : ByteArray} {b : UInt8} {k : Nat} (h : s.data.toList[k]? = some b) : splitSt s b (k + 1) = ((splitSt s b k).1 ++ [s.extract (splitSt s b k).2 k], k + 1) := by
  conv => lhs; unfold splitSt
  rw [if_pos h]
theorem splitSt_miss {s : ByteArray} {b : UInt8} {k : Nat} (h : s.data.toList[k]? ≠ some b) : splitSt s b (k + 1) = splitSt s b k := by
  conv => lhs; unfold splitSt
  rw [if_neg h]
theorem strV_extract {s : ByteArray} (hs : s.size ≤ 1048576) (i j : Nat) : (s.extract i j).size ≤ 9223372036854775807 := by have := extract_size_le s i j; omega
theorem SplitAny_i (s : ByteArray) (b : UInt8) (w : World) (hs : s.size ≤ 1048576) : Calls Tryz.prog 25 #[.string s, .string ⟨#[b]⟩] w (New 9 StrV w (splitB s b)) := by
  go_enter Tryz.func25, Tryz.ntmps25
  go_wp2
  go_loopw [5, 6, 7] (fun v st i wr => ∃ k p : Nat, k ≤ s.size ∧ i = .int .i64 k ∧ p = (splitSt s b k).2 ∧ p ≤ k ∧ st = .int .i64 p ∧ Own 9 StrV (Iv w.heap.size wr.heap.size) wr v (splitSt s b k).1 ∧ Below w.heap.size w wr) (fun _ _ i _ => s.size - (intOf i).toNat)
  case atStart => exact ⟨0, 0, Nat.zero_le _, rfl, rfl, Nat.le_refl _, rfl, Own.nil _ _ _ _, Below.refl _ _⟩
  case round =>
    obtain ⟨k, p, hk, rfl, hp, hpk, rfl, hown, hbel⟩ := hrel
    obtain ⟨wo, rfl⟩ : ∃ wo : World, wo = wr := ⟨_, rfl⟩
    have hBs := hbel.size
    have hsl := splitSt_len s b k
    have hkl : (splitSt s b k).1.length < 1099511627776 := by omega
    have Hp := Lib.hid hp
    obtain ⟨p1, p2, p3, rfl⟩ := hown.shape
    have Hown := Lib.hid hown
    clear hp hown
    by_cases hlt : k < s.size
    · have Hat := Lib.hid (ba_at hlt)
      by_cases hb : s[k] = b
      · have Hst := Lib.hid (splitSt_hit (s := s) (b := b) (k := k) (by rw [Hat.out, hb]))
        have Hb := Lib.hid hb
        have hx := strV_extract hs p k
        clear hb
        go_wp2_with (first | (go_at_call 78; refine (idxByte_hit Hb.out _).mono ?_; rintro e w' ⟨rfl, rfl⟩) | (at_builtin; (refine wpList_appR rfl _ _ 27 rfl rStrV 9 Tryz.underlying27 infoStr rfl (by decide) w.heap.size wo.heap.size hBs (Nat.le_refl _) rfl rfl (by exact Hown.out) (by exact ⟨rfl, hx⟩) hkl ?_); intro v2 w2 hown2 hbel2 _) | fail)
        have hb2 := hbel.trans hbel2
        have Hown2 := Lib.hid hown2
        clear hown2
        go_wp2
        go_roundw
        case rel => exact ⟨k + 1, k + 1, by omega, by go_num, by rw [Hst.out], Nat.le_refl _, by go_num, by rw [Hst.out, ← Hp.out]; exact Hown2.out, hb2⟩
        case measure => simp [intOf]; omega
      · have Hst := Lib.hid (splitSt_miss (s := s) (b := b) (k := k) (by rw [Hat.out]; simpa using hb))
        go_wp2_with (first | (go_at_call 78; refine (idxByte_miss hb _).mono ?_; rintro e w' ⟨rfl, rfl⟩) | fail)
        go_roundw
        case rel => exact ⟨k + 1, p, by omega, by go_num, by rw [Hst.out]; exact Hp.out, by omega, rfl, by rw [Hst.out]; exact Hown.out, hbel⟩
        case measure => simp [intOf]; omega
    · obtain rfl : k = s.size := by omega
      have hx := strV_extract hs p s.size
      go_wp2_with (first | (at_builtin; (refine wpList_appR rfl _ _ 27 rfl rStrV 9 Tryz.underlying27 infoStr rfl (by decide) w.heap.size wo.heap.size hBs (Nat.le_refl _) rfl rfl (by exact Hown.out) (by exact ⟨rfl, hx⟩) hkl ?_); intro v2 w2 hown2 hbel2 _) | fail)
      have hb2 := hbel.trans hbel2
      have Hown2 := Lib.hid hown2
      clear hown2
      go_wp2
      go_ret
      exact ⟨_, rfl, by unfold splitB; rw [← Hp.out]; exact Hown2.out, hb2⟩
theorem retS {b b' : ByteArray} (h : b = b') : Ending.returned (.string b) = Ending.returned (.string b') := by rw [h]
theorem Join_i (v : Value) (xs : List ByteArray) (sep : ByteArray) (w : World) (hv : Strs w v xs) (hb : bulkB sep xs ≤ 1099511627776) (hl : xs.length ≤ 1099511627776) : Calls Tryz.prog 14 #[v, .string sep] w fun e w' => e = .returned (.string (joinB sep xs)) ∧ Below w.heap.size w w' := by
  have hj := joinB_size sep xs
  have hlen : (Lib.join (xs.map (·.data.toList)) sep.data.toList).length ≤ 140737488355328 := by
    have : (joinB sep xs).size = (Lib.join (xs.map (·.data.toList)) sep.data.toList).length := by simp [joinB, ba_size]
    omega
  by_cases h0 : xs = []
  · subst h0
    obtain ⟨a, cap, rfl, -⟩ := hv
    go_enter Tryz.func14, Tryz.ntmps14
    go_wp2_with (first | (go_at_call 56; refine (Tryz.strings_Join_none _ _ _ _).mono ?_; rintro e w' ⟨rfl, rfl⟩))
    go_ret
    exact ⟨rfl, Below.refl _ _⟩
  · have hpos : 0 < xs.length := List.length_pos_iff.2 h0
    obtain ⟨b, off, c, rfl, hbl, hcp⟩ := hv.inv_ne hpos
    have hcells : ∀ (j : Nat) x, xs[j]? = some x → w.cell? ⟨b, off + j, none⟩ = some (.string x) := by
      intro j x hx
      obtain ⟨u, hu, rfl, -⟩ := Sl.at hv hx
      exact hu
    have Hc := Lib.hid hcells
    have Hlen := Lib.hid hlen
    clear hcells hv hlen hj
    go_enter Tryz.func14, Tryz.ntmps14
    go_wp2_with (first | (go_at_call 56; refine (Tryz.strings_Join _ _ _ _ _ _ Hc.out hbl (by omega) hcp Hlen.out).mono ?_; rintro e w' ⟨rfl, hbel⟩))
    go_ret
    exact ⟨rfl, hbel⟩
theorem sgn_i {c : Int} (h0 : -1 ≤ c) (h1 : c ≤ 1) : (⟨#[63, 46, 35]⟩ : ByteArray).extract (c + 1).toNat (c + 2).toNat = sgn c := by
  have : c = -1 ∨ c = 0 ∨ c = 1 := by omega
  rcases this with rfl | rfl | rfl <;> rfl
def Trits (m : List (List Int)) : Prop := m.length ≤ 5 ∧ ∀ r ∈ m, r.length ≤ 5 ∧ ∀ x ∈ r, -1 ≤ x ∧ x ≤ 1
theorem Trits.bulk {m : List (List Int)} (h : Trits m) : bulkB ⟨#[47]⟩ (m.map signRow) ≤ 30 := by
  have h1 := bulkB_le ⟨#[47]⟩ (xs := m.map signRow) (m := 5) (fun x hx => by
    obtain ⟨r, hr, rfl⟩ := List.mem_map.1 hx
    rw [signRow_size]; exact (h.2 r hr).1)
  have h2 : (⟨#[47]⟩ : ByteArray).size = 1 := rfl
  rw [List.length_map, h2] at h1
  have := h.1
  omega
theorem imageOk_trits {m : List (List Int)} (h : imageOk m = true) : Trits m := by
  obtain ⟨r, c, h1, h2, h3, h4, hs⟩ := imageOk_shape h
  refine ⟨by rw [hs.1]; exact h2, fun row hr => ⟨by rw [(hs.2 row hr).1]; exact h4, fun x hx => ?_⟩⟩
  have := (hs.2 row hr).2 x hx
  omega
theorem map_sign_take {m : List (List Int)} {k : Nat} {r : List Int} (h : m[k]? = some r) : (m.take (k + 1)).map signRow = (m.take k).map signRow ++ [signRow r] := by
  rw [List.take_add_one, h]; simp
theorem signs_c (v : Value) (m : List (List Int)) (w : World) (hv : Grid w v m) (hm : Trits m) : Calls Tryz.prog 85 #[v, .string ⟨#[63, 46, 35]⟩] w fun e w' => e = .returned (.string (signsOf m)) ∧ Below w.heap.size w w' := by
  have Hv := Lib.hid hv
  obtain ⟨a, cap0, rfl, -⟩ := hv
  have hm5 := hm.1
  go_enter Tryz.func85, Tryz.ntmps85
  go_wp2
  go_loopw [5, 7, 8, 10, 13] (fun v _ _ _ i wr => ∃ k : Nat, k ≤ m.length ∧ i = .int .i64 k ∧ Own 9 StrV (Iv w.heap.size wr.heap.size) wr v ((m.take k).map signRow) ∧ Below w.heap.size w wr) (fun _ _ _ _ i _ => m.length - (intOf i).toNat)
  case atStart => exact ⟨0, Nat.zero_le _, rfl, Own.nil _ _ _ _, Below.refl _ _⟩
  case round =>
    obtain ⟨k, hk, rfl, hown, hbel⟩ := hrel
    obtain ⟨wo, rfl⟩ : ∃ wo : World, wo = wr := ⟨_, rfl⟩
    have hBs := hbel.size
    by_cases hlt : k < m.length
    · obtain ⟨row, hrow⟩ : ∃ row, m[k]? = some row := ⟨_, List.getElem?_eq_getElem hlt⟩
      obtain ⟨b, off, cpr, he, hb, -⟩ := Hv.out.inv_ne (by omega)
      obtain ⟨rfl, -⟩ : a = some ⟨b, off, none⟩ ∧ cap0 = cpr := by simpa using he
      obtain ⟨u, hck, hu⟩ := Sl.at Hv.out hrow
      have hu : Ints w u row := hu
      obtain ⟨ar, cpr, rfl, -⟩ := id hu
      rw [← hbel.cell (p := ⟨b, off + k, none⟩) hb] at hck
      obtain ⟨hrl, hrb⟩ := hm.2 row (List.mem_of_getElem? hrow)
      have Hst := Lib.hid (map_sign_take hrow)
      have Hu := Lib.hid (hu.keep hbel)
      have hkl : ((m.take k).map signRow).length < 1099511627776 := by simp; omega
      have hdk : decide ((k : Int) < (m.length : Int)) = true := by simp; omega
      obtain ⟨p1, p2, p3, rfl⟩ := hown.shape
      have Hown := Lib.hid hown
      clear hrow hu hown he
      go_wp2
      clear hck
      go_loop [8, 10, 19] (fun s _ i => ∃ j : Nat, j ≤ row.length ∧ i = .int .i64 j ∧ s = .string (signRow (row.take j))) (fun _ _ i => row.length - (intOf i).toNat)
      case atStart => exact ⟨0, Nat.zero_le _, rfl, rfl⟩
      case round =>
        obtain ⟨j, hj, rfl, rfl⟩ := hrel
        obtain ⟨t, ht⟩ : ∃ t, t = signRow (row.take j) := ⟨_, rfl⟩
        rw [← ht]
        have hts : t.size ≤ 5 := by rw [ht, signRow_size, List.length_take]; omega
        have Ht := Lib.hid ht
        clear ht
        by_cases hltj : j < row.length
        · obtain ⟨x, hx⟩ : ∃ x, row[j]? = some x := ⟨_, List.getElem?_eq_getElem hltj⟩
          obtain ⟨br, offr, cpr2, he2, hbr, -⟩ := Hu.out.inv_ne (by omega)
          obtain ⟨rfl, -⟩ : ar = some ⟨br, offr, none⟩ ∧ cpr = cpr2 := by simpa using he2
          have hcx := Ints.at Hu.out hx
          obtain ⟨hx0, hx1⟩ := hrb x (List.mem_of_getElem? hx)
          have Hs := Lib.hid (show signRow (row.take (j + 1)) = t ++ (⟨#[63, 46, 35]⟩ : ByteArray).extract (x + 1).toNat (x + 2).toNat from by rw [signRow_take hx, ← Ht.out, sgn_i hx0 hx1])
          clear hx he2
          go_wp2
          go_round
          case rel => exact ⟨j + 1, by omega, by go_num, by rw [Hs.out]⟩
          case measure => simp [intOf]; omega
        · have Hf := Lib.hid (show t = signRow row from by rw [Ht.out, List.take_of_length_le (by omega)])
          have hx : t.size ≤ 9223372036854775807 := by omega
          go_wp2_with (first | (at_builtin; (refine wpList_appR rfl _ _ 27 rfl rStrV 9 Tryz.underlying27 infoStr rfl (by decide) w.heap.size wo.heap.size hBs (Nat.le_refl _) rfl rfl (by exact Hown.out) (by exact ⟨rfl, hx⟩) hkl ?_); intro v2 w2 hown2 hbel2 _) | fail)
          have hb2 := hbel.trans hbel2
          have Hown2 := Lib.hid hown2
          clear hown2
          go_wp2
          go_roundw
          case rel => exact ⟨k + 1, by omega, by go_num, by rw [Hst.out, ← Hf.out]; exact Hown2.out, hb2⟩
          case measure => simp [intOf]; omega
    · have hfin := hown
      rw [List.take_of_length_le (by omega)] at hfin
      have hst : Strs wo _ (m.map signRow) := (rSl rStrV).rd (hfin.sl (fun _ _ _ _ h => h) rStrV)
      have Hst := Lib.hid hst
      have Hbk := Lib.hid hm.bulk
      obtain ⟨p1, p2, p3, rfl⟩ := hown.shape
      clear hown hfin hst
      go_wp2_with (fail)
      refine (Join_i _ _ _ _ Hst.out (by have := Hbk.out; omega) (by simp; omega)).mono ?_
      rintro e w2 ⟨rfl, hb2⟩
      have hb3 := hbel.trans (hb2.mono hBs)
      go_wp2
      go_ret
      exact ⟨rfl, hb3⟩
def formatImage (m : List (List Int)) : ByteArray := if imageOk m then signsOf m else ByteArray.empty
theorem FormatImage_i (v : Value) (m : List (List Int)) (w : World) (hv : Grid w v m) : Calls Tryz.prog 30 #[v] w fun e w' => e = .returned (.string (formatImage m)) ∧ Below w.heap.size w w' := by
  cases hok : imageOk m
  · have Hr := Lib.hid (show formatImage m = ByteArray.empty from by simp [formatImage, hok])
    have Hok := Lib.hid hok; clear hok
    go_enter Tryz.func30, Tryz.ntmps30
    go_wp2_with (fail)
    refine (ImageOk_i _ _ _ hv).mono ?_
    rintro e w' ⟨rfl, rfl⟩
    rw [Hok.out]
    go_wp2
    go_ret
    exact ⟨retS Hr.out.symm, Below.refl _ _⟩
  · have Hr := Lib.hid (show formatImage m = signsOf m from by simp [formatImage, hok])
    have ht := imageOk_trits hok
    have Hok := Lib.hid hok; clear hok
    go_enter Tryz.func30, Tryz.ntmps30
    go_wp2_with (fail)
    refine (ImageOk_i _ _ _ hv).mono ?_
    rintro e w' ⟨rfl, rfl⟩
    rw [Hok.out]
    go_wp2_with (fail)
    refine (signs_c _ _ _ hv ht).mono ?_
    rintro e w' ⟨rfl, hb⟩
    go_wp2
    go_ret
    exact ⟨retS Hr.out.symm, hb⟩
def Tab (w : World) : Prop := Lib.TabIs Tryz.prog w "internal/strconv.uint64pow10" .u64 Lib.pow10Tab
theorem Tab.keep {w w' : World} (h : Tab w) (hb : Below w.heap.size w w') : Tab w' := by
  have hg : Tryz.prog.globalNamed "internal/strconv.uint64pow10" = some 0 := by kernel_rfl
  unfold Tab Lib.TabIs World.var? at h ⊢
  rw [hg] at h ⊢
  simp only [Option.bind_some] at h ⊢
  have hlt : 0 < w.heap.size := by
    rcases Nat.lt_or_ge 0 w.heap.size with h' | h'
    · exact h'
    · rw [Array.getElem?_eq_none h'] at h; cases h
  rw [hb.block _ hlt]
  exact h
theorem below_grow {w w' : World} (h : ∃ k os, w' = Go.Sort.grow (w.drewN k) os) : Below w.heap.size w w' := by
  obtain ⟨k, os, rfl⟩ := h
  refine ⟨rfl, rfl, rfl, by simp, fun b hb => ?_⟩
  show (w.heap ++ os)[b]? = _
  rw [Array.getElem?_append, if_pos hb]
theorem FormatInt_i (n : Int) (hn : I64 n) (w : World) (ht : Tab w) : Calls Tryz.prog 8 #[.int .i64 n] w fun e w' => e = .returned (.string (fmtInt n)) ∧ Below w.heap.size w w' := by
  obtain ⟨h1, h2⟩ := hn.out
  go_enter Tryz.func8, Tryz.ntmps8
  go_wp2_with (first | (go_at_call 24; refine (Tryz.strconv_Itoa n h1 h2 _ ht).mono ?_; rintro e w' ⟨rfl, hg⟩))
  have hb := below_grow hg
  clear hg
  go_ret
  exact ⟨rfl, hb⟩
def intsText (sep : ByteArray) (l : List Int) : ByteArray := joinB sep (l.map fmtInt)
def sumsText (l : List Int) : ByteArray := if l = [] then ⟨#[45]⟩ else intsText ⟨#[44]⟩ l
def Ints64 (l : List Int) : Prop := ∀ x ∈ l, I64 x
theorem ints_64 {w : World} {v : Value} {l : List Int} (h : Ints w v l) : Ints64 l := by
  intro x hx
  obtain ⟨k, hk⟩ := List.getElem?_of_mem hx
  obtain ⟨b, o, c, rfl, -, -⟩ := h.inv_ne (by have := (List.getElem?_eq_some_iff.1 hk).1; omega)
  obtain ⟨u, -, -, hI⟩ := Sl.at h hk
  exact hI
theorem ints_bulk {sep : ByteArray} {l : List Int} (hs : sep.size ≤ 1) (h : Ints64 l) : bulkB sep (l.map fmtInt) ≤ l.length * 21 := by
  have h1 := bulkB_le sep (xs := l.map fmtInt) (m := 20) (fun x hx => by
    obtain ⟨n, hn, rfl⟩ := List.mem_map.1 hx
    exact fmt_size (h n hn).out)
  rw [List.length_map] at h1
  have h2 : l.length * (20 + sep.size) ≤ l.length * 21 := Nat.mul_le_mul_left _ (by omega)
  omega
theorem intsText_size {sep : ByteArray} {l : List Int} (hs : sep.size ≤ 1) (h : Ints64 l) : (intsText sep l).size ≤ l.length * 21 := Nat.le_trans (joinB_size _ _) (ints_bulk hs h)
theorem sumsText_size {l : List Int} (h : Ints64 l) : (sumsText l).size ≤ l.length * 21 + 1 := by
  unfold sumsText
  split
  · show 1 ≤ _; omega
  · have := intsText_size (sep := ⟨#[44]⟩) (by decide) h; omega
theorem map_take_S {α : Type} (f : α → ByteArray) {l : List α} {k : Nat} {x : α} (h : l[k]? = some x) : (l.take (k + 1)).map f = (l.take k).map f ++ [f x] := by
  rw [List.take_add_one, h]; simp
theorem strs_of {E : TypeId} {S : Bk} {w : World} {v : Value} {xs : List ByteArray} (h : Own E StrV S w v xs) : Strs w v xs := (rSl rStrV).rd (h.sl (fun _ _ _ _ h => h) rStrV)
theorem texts_c (v : Value) (l : List Int) (w : World) (hv : Ints w v l) (hl : l.length ≤ 2097152) (ht : Tab w) : Calls Tryz.prog 102 #[v] w (New 9 StrV w (l.map fmtInt)) := by
  have Hv := Lib.hid hv
  have HI := Lib.hid (ints_64 hv)
  have Ht := Lib.hid ht; clear ht
  obtain ⟨a, cap0, rfl, -⟩ := hv
  go_enter Tryz.func102, Tryz.ntmps102
  go_wp2
  go_loopw [3, 5, 8] (fun v _ i wr => ∃ k : Nat, k ≤ l.length ∧ i = .int .i64 k ∧ Own 9 StrV (Iv w.heap.size wr.heap.size) wr v ((l.take k).map fmtInt) ∧ Below w.heap.size w wr) (fun _ _ i _ => l.length - (intOf i).toNat)
  case atStart => exact ⟨0, Nat.zero_le _, rfl, Own.nil _ _ _ _, Below.refl _ _⟩
  case round =>
    obtain ⟨k, hk, rfl, hown, hbel⟩ := hrel
    obtain ⟨wo, rfl⟩ : ∃ wo : World, wo = wr := ⟨_, rfl⟩
    have hBs := hbel.size
    by_cases hlt : k < l.length
    · obtain ⟨x, hx⟩ : ∃ x, l[k]? = some x := ⟨_, List.getElem?_eq_getElem hlt⟩
      obtain ⟨b, off, cpr, he, hb, -⟩ := Hv.out.inv_ne (by omega)
      obtain ⟨rfl, -⟩ : a = some ⟨b, off, none⟩ ∧ cap0 = cpr := by simpa using he
      obtain ⟨u, hck, hu⟩ := Sl.at Hv.out hx
      obtain ⟨rfl, hI⟩ := hu
      rw [← hbel.cell (p := ⟨b, off + k, none⟩) hb] at hck
      have Hst := Lib.hid (map_take_S fmtInt hx)
      have hkl : ((l.take k).map fmtInt).length < 1099511627776 := by simp; omega
      have Hto := Lib.hid (Ht.out.keep hbel)
      obtain ⟨p1, p2, p3, rfl⟩ := hown.shape
      have Hown := Lib.hid hown
      clear hx hown he
      go_wp2_with (fail)
      refine (FormatInt_i x hI _ Hto.out).mono ?_
      rintro e w1 ⟨rfl, hb1⟩
      have hs1 : wo.heap.size ≤ w1.heap.size := hb1.size
      have hsz : (fmtInt x).size ≤ 9223372036854775807 := by have := fmt_size hI.out; omega
      go_wp2_with (first | (at_builtin; (refine wpList_appR rfl _ _ 27 rfl rStrV 9 Tryz.underlying27 infoStr rfl (by decide) w.heap.size wo.heap.size hBs hs1 rfl rfl (by exact Own.keep rStrV Hown.out hb1 (Nat.le_refl _)) (by exact ⟨rfl, hsz⟩) hkl ?_); intro v2 w2 hown2 hbel2 _) | fail)
      have hb2 := (hbel.trans (hb1.mono hBs)).trans hbel2
      have Hown2 := Lib.hid hown2
      clear hown2
      go_wp2
      go_roundw
      case rel => exact ⟨k + 1, by omega, by go_num, by rw [Hst.out]; exact Hown2.out, hb2⟩
      case measure => simp [intOf]; omega
    · have hfin := hown
      rw [List.take_of_length_le (by omega)] at hfin
      obtain ⟨p1, p2, p3, rfl⟩ := hown.shape
      have Hfin := Lib.hid hfin
      clear hown hfin
      go_wp2
      go_ret
      exact ⟨_, rfl, Hfin.out, hbel⟩
theorem FormatSums_i (v : Value) (l : List Int) (w : World) (hv : Ints w v l) (hl : l.length ≤ 2097152) (ht : Tab w) : Calls Tryz.prog 43 #[v] w fun e w' => e = .returned (.string (sumsText l)) ∧ Below w.heap.size w w' := by
  have HI := Lib.hid (ints_64 hv)
  have Hv := Lib.hid hv
  obtain ⟨a, cap0, rfl, -⟩ := hv
  by_cases h0 : l = []
  · subst h0
    have Hr := Lib.hid (show sumsText [] = ⟨#[45]⟩ from rfl)
    go_enter Tryz.func43, Tryz.ntmps43
    go_wp2
    go_ret
    exact ⟨retS Hr.out.symm, Below.refl _ _⟩
  · have Hr := Lib.hid (show sumsText l = intsText ⟨#[44]⟩ l from by unfold sumsText; rw [if_neg h0])
    have hpos : 0 < l.length := List.length_pos_iff.2 h0
    have hne : ((l.length : Int) == 0) = false := by rw [beq_eq_false_iff_ne]; omega
    have Hbk := Lib.hid (show bulkB ⟨#[44]⟩ (l.map fmtInt) ≤ 1099511627776 from by have := ints_bulk (sep := ⟨#[44]⟩) (by decide) HI.out; omega)
    clear h0
    go_enter Tryz.func43, Tryz.ntmps43
    go_wp2_with (fail)
    refine (texts_c _ _ _ Hv.out hl ht).mono ?_
    rintro e w1 ⟨v1, rfl, o1, b1⟩
    have Hst := Lib.hid (strs_of o1)
    go_wp2_with (fail)
    refine (Join_i _ _ _ _ Hst.out Hbk.out (by simp; omega)).mono ?_
    rintro e w2 ⟨rfl, b2⟩
    have bb := b1.trans_pure b2 (Nat.le_refl _)
    go_wp2
    go_ret
    exact ⟨retS Hr.out.symm, bb⟩
end Go.Proofs.YthmocomfjgmjoaaGreatDoor

/- Texts: plain. Numbers out of texts: plain. Contracts: texts: IndexByte, SplitAny, Join. Contracts: numbers as texts: FormatInt. -/
import Derived.Lib.Join
import Derived.Lib.ItoaNum
import Derived.Lib.AtoiAll
import Derived.Test.YtningnjdafhgkaaDoorC1
import Derived.Lib.Strings
import Derived.Lib.Slices
import Derived.Lib.Walk
import Derived.Lib.Bytealg
import Derived.Laws.BytesString
import Derived.Deep.RegionWith
import Derived.Deep.DeepFit
namespace Go.Proofs.YtningnjdafhgkaaDoor
open Go

theorem ba_ext {a b : ByteArray} (h : a.data.toList = b.data.toList) : a = b := by
  cases a; cases b; simp at h; simp [h]
theorem ba_list_append (a b : ByteArray) : (a ++ b).data.toList = a.data.toList ++ b.data.toList := by
  rw [ByteArray.data_append, Array.toList_append]
theorem ba_size (a : ByteArray) : a.size = a.data.toList.length := rfl
theorem ba_mk (a : ByteArray) : (⟨a.data.toList.toArray⟩ : ByteArray) = a := rfl
theorem ba_append_size (a b : ByteArray) : (a ++ b).size = a.size + b.size := by simp
theorem ba_at {a : ByteArray} {k : Nat} (h : k < a.size) : a.data.toList[k]? = some (a[k]'h) := by
  rw [Array.getElem?_toList]; exact Array.getElem?_eq_getElem h
theorem ba_extract (a : ByteArray) (i j : Nat) : (a.extract i j).data.toList = (a.data.toList.drop i).take (j - i) := by
  simp [ByteArray.data_extract]

/-- the strings joined -/
def joinB (sep : ByteArray) (xs : List ByteArray) : ByteArray := ⟨(Lib.join (xs.map (·.data.toList)) sep.data.toList).toArray⟩
theorem joinB_nil (sep : ByteArray) : joinB sep [] = ByteArray.empty := rfl
theorem joinB_one (sep x : ByteArray) : joinB sep [x] = x := by
  unfold joinB; simp only [List.map_cons, List.map_nil, Lib.join_one]
theorem joinB_snoc (sep x : ByteArray) {xs : List ByteArray} (h : xs ≠ []) : joinB sep (xs ++ [x]) = joinB sep xs ++ sep ++ x := by
  cases xs with
  | nil => exact absurd rfl h
  | cons y r =>
    apply ba_ext
    rw [ba_list_append, ba_list_append]
    unfold joinB
    simp only [List.cons_append, List.map_cons, List.map_append, List.map_nil]
    rw [Lib.join_cons, Lib.join_cons]
    simp [Lib.joinTail, List.append_assoc]
theorem joinB_take {sep x : ByteArray} {xs : List ByteArray} {k : Nat} (hx : xs[k]? = some x) : joinB sep (xs.take (k + 1)) = if k = 0 then x else joinB sep (xs.take k) ++ sep ++ x := by
  have hk := (List.getElem?_eq_some_iff.1 hx).1
  rw [List.take_add_one, hx]
  by_cases h : k = 0
  · subst h; simp [joinB_one]
  · rw [if_neg h]
    refine joinB_snoc sep x ?_
    intro hn
    have := congrArg List.length hn
    simp at this
    rcases this with h1 | h1
    · exact h h1
    · subst h1; simp at hk
/-- how long the strings are, with a separator each -/
def bulkB (sep : ByteArray) : List ByteArray → Nat
  | [] => 0
  | x :: r => x.size + sep.size + bulkB sep r
theorem bulkB_append (sep : ByteArray) (a b : List ByteArray) : bulkB sep (a ++ b) = bulkB sep a + bulkB sep b := by
  induction a with
  | nil => simp [bulkB]
  | cons x r ih => simp only [List.cons_append, bulkB, ih]; omega
theorem bulkB_tail (sep : ByteArray) (r : List ByteArray) : (Lib.joinTail sep.data.toList (r.map (·.data.toList))).length = bulkB sep r := by
  induction r with
  | nil => simp [Lib.joinTail, bulkB]
  | cons y r ih =>
    simp only [Lib.joinTail, List.map_cons, List.flatten_cons, List.length_append] at ih ⊢
    rw [ih]; simp only [bulkB, ba_size]; omega
theorem joinB_size (sep : ByteArray) (xs : List ByteArray) : (joinB sep xs).size ≤ bulkB sep xs := by
  cases xs with
  | nil => simp [joinB_nil]
  | cons x r =>
    rw [ba_size]; unfold joinB
    simp only [List.map_cons]
    rw [Lib.join_cons, List.length_append, bulkB_tail]
    simp only [bulkB, ba_size]; omega
theorem bulkB_le (sep : ByteArray) {xs : List ByteArray} {m : Nat} (h : ∀ x ∈ xs, x.size ≤ m) : bulkB sep xs ≤ xs.length * (m + sep.size) := by
  induction xs with
  | nil => simp [bulkB]
  | cons x r ih =>
    have h1 := h x (by simp)
    have h2 := ih (fun y hy => h y (by simp [hy]))
    simp only [bulkB, List.length_cons, Nat.succ_mul]
    omega
theorem bulkB_take_le (sep : ByteArray) (xs : List ByteArray) (k : Nat) : bulkB sep (xs.take k) ≤ bulkB sep xs := by
  have := bulkB_append sep (xs.take k) (xs.drop k)
  rw [List.take_append_drop] at this
  omega

/-- a string split at each byte b: the parts before cell k, and where the part begins that is not done -/
def splitSt (s : ByteArray) (b : UInt8) : Nat → List ByteArray × Nat
  | 0 => ([], 0)
  | k + 1 => if s.data.toList[k]? = some b then ((splitSt s b k).1 ++ [s.extract (splitSt s b k).2 k], k + 1) else splitSt s b k
def splitB (s : ByteArray) (b : UInt8) : List ByteArray := (splitSt s b s.size).1 ++ [s.extract (splitSt s b s.size).2 s.size]
theorem splitSt_le (s : ByteArray) (b : UInt8) (k : Nat) : (splitSt s b k).2 ≤ k := by
  induction k with
  | zero => simp [splitSt]
  | succ k ih => unfold splitSt; split
                 · exact Nat.le_refl _
                 · omega
theorem splitSt_len (s : ByteArray) (b : UInt8) (k : Nat) : (splitSt s b k).1.length ≤ k := by
  induction k with
  | zero => simp [splitSt]
  | succ k ih =>
    unfold splitSt; split
    · simp only [List.length_append, List.length_cons, List.length_nil]; omega
    · omega
theorem splitB_len (s : ByteArray) (b : UInt8) : (splitB s b).length ≤ s.size + 1 := by
  have := splitSt_len s b s.size
  simp only [splitB, List.length_append, List.length_cons, List.length_nil]; omega
/-- the parts hold no b, joined they give the string -/
theorem splitSt_join (s : ByteArray) (b : UInt8) (k : Nat) (hk : k ≤ s.size) : joinB ⟨#[b]⟩ ((splitSt s b k).1 ++ [s.extract (splitSt s b k).2 k]) = s.extract 0 k ∧
    (∀ p ∈ (splitSt s b k).1, ∀ x ∈ p.data.toList, x ≠ b ∧ x ∈ s.data.toList) ∧ ∀ x ∈ (s.extract (splitSt s b k).2 k).data.toList, x ≠ b := by
  induction k with
  | zero =>
    refine ⟨by simp [splitSt, joinB_one], by simp [splitSt], ?_⟩
    intro x hx; rw [ba_extract] at hx; simp [splitSt] at hx
  | succ k ih =>
    obtain ⟨h1, h2, h3⟩ := ih (by omega)
    have hat := ba_at (a := s) (k := k) (by omega)
    have hcut : ∀ i, i ≤ k → (s.extract i (k + 1)) = s.extract i k ++ ⟨#[s[k]'(by omega)]⟩ := by
      intro i hi
      apply ba_ext
      rw [ba_list_append, ba_extract, ba_extract]
      have e : k + 1 - i = (k - i) + 1 := by omega
      rw [e, List.take_add_one, List.getElem?_drop]
      have e2 : i + (k - i) = k := by omega
      rw [e2, hat]; rfl
    have hle := splitSt_le s b k
    unfold splitSt
    by_cases hb : s.data.toList[k]? = some b
    · rw [if_pos hb]
      have hbk : s[k]'(by omega) = b := by rw [hat] at hb; exact Option.some.inj hb
      have hemp : s.extract (k + 1) (k + 1) = ByteArray.empty := by
        apply ba_ext; rw [ba_extract]; simp
      dsimp only
      refine ⟨?_, ?_, ?_⟩
      · rw [hemp, joinB_snoc _ _ (by simp), h1, hcut 0 (by omega), hbk]
        apply ba_ext; simp
      · intro p hp
        rw [List.mem_append] at hp
        rcases hp with hp | hp
        · exact h2 p hp
        · simp at hp; subst hp
          intro x hx
          refine ⟨h3 x hx, ?_⟩
          rw [ba_extract] at hx
          exact List.mem_of_mem_drop (List.mem_of_mem_take hx)
      · intro x hx; rw [hemp] at hx; simp at hx
    · rw [if_neg hb]
      have hbk : s[k]'(by omega) ≠ b := fun h => hb (by rw [hat, h])
      refine ⟨?_, h2, ?_⟩
      · rw [hcut _ hle, hcut 0 (by omega), ← h1]
        by_cases hn : (splitSt s b k).1 = []
        · rw [hn]; simp [joinB_one]
        · rw [joinB_snoc _ _ hn, joinB_snoc _ _ hn]
          apply ba_ext; simp [List.append_assoc]
      · intro x hx
        rw [hcut _ hle, ba_list_append, List.mem_append] at hx
        rcases hx with hx | hx
        · exact h3 x hx
        · simp at hx; subst hx; exact hbk
theorem splitB_join (s : ByteArray) (b : UInt8) : joinB ⟨#[b]⟩ (splitB s b) = s := by
  have h := (splitSt_join s b s.size (Nat.le_refl _)).1
  unfold splitB; rw [h]
  apply ba_ext; rw [ba_extract, List.drop_zero, Nat.sub_zero, List.take_of_length_le (Nat.le_of_eq (ba_size s).symm)]
theorem splitB_parts (s : ByteArray) (b : UInt8) : ∀ p ∈ splitB s b, ∀ x ∈ p.data.toList, x ≠ b ∧ x ∈ s.data.toList := by
  obtain ⟨-, h2, h3⟩ := splitSt_join s b s.size (Nat.le_refl _)
  intro p hp
  unfold splitB at hp
  rw [List.mem_append] at hp
  rcases hp with hp | hp
  · exact h2 p hp
  · simp at hp; subst hp
    intro x hx
    refine ⟨h3 x hx, ?_⟩
    rw [ba_extract] at hx
    exact List.mem_of_mem_drop (List.mem_of_mem_take hx)
theorem splitB_pos (s : ByteArray) (b : UInt8) : 0 < (splitB s b).length := by simp [splitB]
theorem extract_size_le (s : ByteArray) (i j : Nat) : (s.extract i j).size ≤ s.size := by
  rw [ba_size, ba_size, ba_extract, List.length_take, List.length_drop]; omega
theorem splitB_part_size (s : ByteArray) (b : UInt8) : ∀ p ∈ splitB s b, p.size ≤ s.size := by
  have hst : ∀ k, ∀ p ∈ (splitSt s b k).1, p.size ≤ s.size := by
    intro k
    induction k with
    | zero => simp [splitSt]
    | succ k ih =>
      unfold splitSt; split
      · intro p hp
        rw [List.mem_append] at hp
        rcases hp with hp | hp
        · exact ih p hp
        · simp at hp; subst hp; exact extract_size_le _ _ _
      · exact ih
  intro p hp
  unfold splitB at hp
  rw [List.mem_append] at hp
  rcases hp with hp | hp
  · exact hst _ p hp
  · simp at hp; subst hp; exact extract_size_le _ _ _

/-! ### images as texts -/
/-- the sign of a cell -/
def sgn (c : Int) : ByteArray := if c = 0 then ⟨#[46]⟩ else if c = 1 then ⟨#[35]⟩ else ⟨#[63]⟩
def signRow (r : List Int) : ByteArray := r.foldl (fun s c => s ++ sgn c) ByteArray.empty
theorem sgn_size (c : Int) : (sgn c).size = 1 := by unfold sgn; split; · rfl
                                                    · split <;> rfl
theorem signRow_snoc (r : List Int) (c : Int) : signRow (r ++ [c]) = signRow r ++ sgn c := by simp [signRow, List.foldl_append]
theorem signRow_take {r : List Int} {k : Nat} {x : Int} (h : r[k]? = some x) : signRow (r.take (k + 1)) = signRow (r.take k) ++ sgn x := by
  rw [List.take_add_one, h]; exact signRow_snoc _ _
theorem foldl_size (r : List Int) : ∀ s : ByteArray, (r.foldl (fun s c => s ++ sgn c) s).size = s.size + r.length := by
  induction r with
  | nil => intro s; simp
  | cons c r ih => intro s; rw [List.foldl_cons, ih, ba_append_size, sgn_size, List.length_cons]; omega
theorem signRow_size (r : List Int) : (signRow r).size = r.length := by unfold signRow; rw [foldl_size]; simp
theorem foldl_list (r : List Int) : ∀ s : ByteArray, (r.foldl (fun s c => s ++ sgn c) s).data.toList = s.data.toList ++ (r.map (fun c => (sgn c).data.toList)).flatten := by
  induction r with
  | nil => intro s; simp
  | cons c r ih => intro s; rw [List.foldl_cons, ih, ba_list_append]; simp [List.append_assoc]
def signB (c : Int) : UInt8 := if c = 0 then 46 else if c = 1 then 35 else 63
theorem sgn_list (c : Int) : (sgn c).data.toList = [signB c] := by unfold sgn signB; split; · rfl
                                                                   · split <;> rfl
theorem signRow_list (r : List Int) : (signRow r).data.toList = r.map signB := by
  unfold signRow; rw [foldl_list]
  simp only [sgn_list]
  induction r with
  | nil => rfl
  | cons c r ih => simp at ih ⊢; exact ih

def signsOf (m : List (List Int)) : ByteArray := joinB ⟨#[47]⟩ (m.map signRow)

/-- a cell out of its sign -/
def cellB (b : UInt8) : Int := if b = 35 then 1 else 0
def rowB (s : ByteArray) : List Int := s.data.toList.map cellB
def plainB (s : ByteArray) : Bool := s.data.toList.all fun b => b == 35 || b == 46
theorem rowB_bits (s : ByteArray) : ∀ x ∈ rowB s, 0 ≤ x ∧ x ≤ 1 := by
  intro x hx
  unfold rowB at hx
  obtain ⟨b, -, rfl⟩ := List.mem_map.1 hx
  unfold cellB; split <;> decide
theorem signRow_rowB {s : ByteArray} (h : plainB s = true) : signRow (rowB s) = s := by
  apply ba_ext
  rw [signRow_list]; unfold rowB
  rw [List.map_map]
  unfold plainB at h
  rw [List.all_eq_true] at h
  generalize s.data.toList = l at h ⊢
  induction l with
  | nil => rfl
  | cons b l ih =>
    have hb := h b (by simp)
    rw [List.map_cons, ih (fun x hx => h x (by simp [hx]))]
    simp at hb
    rcases hb with rfl | rfl <;> rfl
theorem joinB_mem {sep : ByteArray} {xs : List ByteArray} {b : UInt8} (h : b ∈ (joinB sep xs).data.toList) : b ∈ sep.data.toList ∨ ∃ x ∈ xs, b ∈ x.data.toList := by
  cases xs with
  | nil => simp [joinB_nil] at h
  | cons y r =>
    unfold joinB at h
    simp only [List.map_cons] at h
    rw [Lib.join_cons] at h
    simp only [Lib.joinTail] at h
    rw [List.mem_append] at h
    rcases h with h | h
    · exact .inr ⟨y, by simp, h⟩
    · rw [List.mem_flatten] at h
      obtain ⟨l, hl, hb⟩ := h
      simp only [List.map_map, List.mem_map, Function.comp] at hl
      obtain ⟨x, hx, rfl⟩ := hl
      rw [List.mem_append] at hb
      rcases hb with hb | hb
      · exact .inl hb
      · exact .inr ⟨x, by simp [hx], hb⟩
/-- a text is the signs of what is read off its parts exactly if all its parts are signs -/
theorem signs_split (s : ByteArray) : signsOf ((splitB s 47).map rowB) = s ↔ (splitB s 47).all plainB = true := by
  constructor
  · intro h
    rw [List.all_eq_true]
    intro p hp
    unfold plainB
    rw [List.all_eq_true]
    intro b hb
    obtain ⟨hne, hmem⟩ := splitB_parts s 47 p hp b hb
    rw [← h] at hmem
    rcases joinB_mem hmem with h1 | ⟨x, hx, h1⟩
    · simp at h1; exact absurd h1 hne
    · simp only [List.map_map, List.mem_map, Function.comp] at hx
      obtain ⟨q, -, rfl⟩ := hx
      rw [signRow_list] at h1
      obtain ⟨c, hc, rfl⟩ := List.mem_map.1 h1
      have := rowB_bits q c hc
      have h2 : c = 0 ∨ c = 1 := by omega
      rcases h2 with rfl | rfl <;> rfl
  · intro h
    rw [List.all_eq_true] at h
    unfold signsOf
    rw [List.map_map]
    have e : (splitB s 47).map (signRow ∘ rowB) = splitB s 47 := by
      exact (List.map_congr_left (f := signRow ∘ rowB) (g := id) (fun p hp => signRow_rowB (h p hp))).trans (List.map_id _)
    rw [e, splitB_join]

/-! ### numbers as texts -/
def fmtInt (n : Int) : ByteArray := ⟨(Lib.itoa n).toArray⟩
theorem fmt_digit {n : Int} (h0 : 0 ≤ n) (h1 : n ≤ 9) : fmtInt n = ⟨#[UInt8.ofNat (48 + n.toNat)]⟩ := by
  unfold fmtInt Lib.itoa
  rw [if_neg (by omega), Lib.decDigits_one (by omega)]
theorem fmt_step {n : Int} (h : 9 < n) : fmtInt n = fmtInt (n / 10) ++ ⟨#[UInt8.ofNat (48 + (n % 10).toNat)]⟩ := by
  apply ba_ext
  rw [ba_list_append]
  unfold fmtInt Lib.itoa
  rw [if_neg (by omega), if_neg (by omega), Lib.decDigits, dif_neg (by omega)]
  have e1 : n.toNat / 10 = (n / 10).toNat := by omega
  have e2 : n.toNat % 10 = (n % 10).toNat := by omega
  rw [e1, e2]
theorem fmt_neg1 {n : Int} (h0 : n < 0) (h1 : -10 < n) : fmtInt n = ⟨#[45]⟩ ++ ⟨#[UInt8.ofNat (48 + (-n).toNat)]⟩ := by
  apply ba_ext
  rw [ba_list_append]
  unfold fmtInt Lib.itoa
  rw [if_pos h0, Lib.decDigits_one (by omega)]
  have e1 : n.natAbs = (-n).toNat := by omega
  rw [e1]; rfl
theorem fmt_neg {n : Int} (h1 : n ≤ -10) : fmtInt n = fmtInt (n.tdiv 10) ++ ⟨#[UInt8.ofNat (48 + (-(n.tmod 10)).toNat)]⟩ := by
  apply ba_ext
  rw [ba_list_append]
  have e0 : n.tdiv 10 = -((-n) / 10) := by
    have h2 : (-(-n)).tdiv 10 = -((-n).tdiv 10) := Int.neg_tdiv ..
    rw [Int.neg_neg, Int.tdiv_eq_ediv_of_nonneg (a := -n) (by omega)] at h2
    exact h2
  have e00 : n.tmod 10 = n - 10 * n.tdiv 10 := Int.tmod_def n 10
  have hd : n.tdiv 10 < 0 := by omega
  unfold fmtInt Lib.itoa
  rw [if_pos (by omega), if_pos hd, Lib.decDigits, dif_neg (by omega)]
  have e1 : n.natAbs / 10 = (n.tdiv 10).natAbs := by omega
  have e2 : n.natAbs % 10 = (-(n.tmod 10)).toNat := by omega
  rw [e1, e2]; simp
theorem decDigits_len (u : Nat) : ∀ k, u < 10 ^ (k + 1) → (Lib.decDigits u).length ≤ k + 1 := by
  intro k
  induction k generalizing u with
  | zero => intro h; rw [Lib.decDigits_one (by omega)]; simp
  | succ k ih =>
    intro h
    rw [Lib.decDigits]
    split
    · simp
    · rw [List.length_append]
      have := ih (u / 10) (by rw [Nat.pow_succ] at h; omega)
      simp; omega
theorem fmt_size {n : Int} (h : -9223372036854775808 ≤ n ∧ n ≤ 9223372036854775807) : (fmtInt n).size ≤ 20 := by
  rw [ba_size]; unfold fmtInt Lib.itoa
  have hb : ∀ u : Nat, u ≤ 9223372036854775808 → (Lib.decDigits u).length ≤ 19 := fun u hu => decDigits_len u 18 (by omega)
  split
  · have := hb n.natAbs (by omega); simp; omega
  · have := hb n.toNat (by omega); simp; omega
end Go.Proofs.YtningnjdafhgkaaDoor

namespace Go.Proofs.YtningnjdafhgkaaDoor
open Go

def decF (a : Nat) (l : List UInt8) : Nat := l.foldl (fun a b => a * 10 + (b.toNat - 48)) a
def decV (l : List UInt8) : Nat := decF 0 l
def digB (b : UInt8) : Bool := decide (48 ≤ b.toNat) && decide (b.toNat ≤ 57)
theorem decF_cons (a : Nat) (b : UInt8) (l : List UInt8) : decF a (b :: l) = decF (a * 10 + (b.toNat - 48)) l := by unfold decF; rw [List.foldl_cons]
theorem decF_snoc (a : Nat) (b : UInt8) (l : List UInt8) : decF a (l ++ [b]) = decF a l * 10 + (b.toNat - 48) := by simp [decF, List.foldl_append]
theorem decF_ge (l : List UInt8) : ∀ a, a ≤ decF a l := by
  induction l with
  | nil => intro a; exact Nat.le_refl _
  | cons b l ih => intro a; have := ih (a * 10 + (b.toNat - 48)); rw [decF_cons]; omega
theorem decF_append (a : Nat) (l m : List UInt8) : decF a (l ++ m) = decF (decF a l) m := by simp [decF, List.foldl_append]
theorem decV_take_le (l : List UInt8) (k : Nat) : decV (l.take k) ≤ decV l := by
  have h := decF_append 0 (l.take k) (l.drop k)
  rw [List.take_append_drop] at h
  have h2 := decF_ge (l.drop k) (decF 0 (l.take k))
  unfold decV; omega
theorem decV_take {l : List UInt8} {k : Nat} {b : UInt8} (h : l[k]? = some b) : decV (l.take (k + 1)) = decV (l.take k) * 10 + (b.toNat - 48) := by
  rw [List.take_add_one, h]; exact decF_snoc _ _ _
theorem digit_nat {d : Nat} (h : d < 10) : (UInt8.ofNat (48 + d)).toNat = 48 + d := by
  rw [UInt8.toNat_ofNat']; omega
theorem decDigits_fact (u : Nat) : decV (Lib.decDigits u) = u ∧ (Lib.decDigits u).all digB = true ∧ Lib.decDigits u ≠ [] := by
  induction u using Nat.strongRecOn with
  | ind u ih =>
    rw [Lib.decDigits]
    split
    · rename_i h
      refine ⟨?_, ?_, by simp⟩
      · unfold decV; rw [decF_cons, digit_nat h]; simp [decF]
      · simp only [List.all_cons, List.all_nil, Bool.and_true, digB, digit_nat h]; simp; omega
    · rename_i h
      obtain ⟨h1, h2, h3⟩ := ih (u / 10) (by omega)
      have hd : u % 10 < 10 := by omega
      refine ⟨?_, ?_, by simp⟩
      · unfold decV at h1 ⊢; rw [decF_snoc, h1, digit_nat hd]; omega
      · rw [List.all_append, h2]; simp only [List.all_cons, List.all_nil, Bool.and_true, Bool.true_and, digB, digit_nat hd]; simp; omega
theorem digits_head (u : Nat) : ∃ b l, Lib.decDigits u = b :: l ∧ digB b = true := by
  obtain ⟨-, h2, h3⟩ := decDigits_fact u
  match h : Lib.decDigits u with
  | [] => exact absurd h h3
  | b :: l => rw [h] at h2; simp at h2; exact ⟨b, l, rfl, h2.1⟩
theorem digB_iff {b : UInt8} : digB b = true ↔ 48 ≤ b.toNat ∧ b.toNat ≤ 57 := by simp [digB]
theorem itoa_head (n : Int) : (n < 0 → Lib.itoa n = 45 :: Lib.decDigits n.natAbs) ∧ (0 ≤ n → Lib.itoa n = Lib.decDigits n.natAbs) := by
  refine ⟨fun h => by unfold Lib.itoa; rw [if_pos h], fun h => ?_⟩
  unfold Lib.itoa; rw [if_neg (by omega)]
  have : n.toNat = n.natAbs := by omega
  rw [this]
theorem itoa_inj {n m : Int} (h : Lib.itoa n = Lib.itoa m) : n = m := by
  have key : ∀ u : Nat, ∀ v : Nat, Lib.decDigits u ≠ 45 :: Lib.decDigits v := by
    intro u v he
    obtain ⟨b, l, hb, hd⟩ := digits_head u
    rw [hb] at he
    have := (List.cons.inj he).1
    subst this; simp [digB] at hd
  have dinj : ∀ u v : Nat, Lib.decDigits u = Lib.decDigits v → u = v := by
    intro u v he
    have h1 := (decDigits_fact u).1
    have h2 := (decDigits_fact v).1
    rw [he] at h1; omega
  rcases Int.lt_or_le n 0 with hn | hn <;> rcases Int.lt_or_le m 0 with hm | hm
  · rw [(itoa_head n).1 hn, (itoa_head m).1 hm] at h
    have := dinj _ _ (List.cons.inj h).2; omega
  · rw [(itoa_head n).1 hn, (itoa_head m).2 hm] at h; exact absurd h.symm (key _ _)
  · rw [(itoa_head n).2 hn, (itoa_head m).1 hm] at h; exact absurd h (key _ _)
  · rw [(itoa_head n).2 hn, (itoa_head m).2 hm] at h
    have := dinj _ _ h; omega
theorem fmtInt_inj {n m : Int} (h : fmtInt n = fmtInt m) : n = m := by
  apply itoa_inj
  have := congrArg (fun b : ByteArray => b.data.toList) h
  exact this
theorem parseUint_of (l : List UInt8) : ∀ a, l.all digB = true → decF a l < 18446744073709551616 → Lib.parseUint10 a l = .ok (decF a l) := by
  induction l with
  | nil => intro a _ _; rfl
  | cons b l ih =>
    intro a h hlt
    rw [List.all_cons, Bool.and_eq_true] at h
    have hb := digB_iff.1 h.1
    rw [decF_cons] at hlt ⊢
    have hge := decF_ge l (a * 10 + (b.toNat - 48))
    unfold Lib.parseUint10
    rw [if_pos hb, if_neg (by omega), if_neg (by omega)]
    exact ih _ h.2 hlt
theorem atoi_itoa {n : Int} (h1 : -9223372036854775808 ≤ n) (h2 : n ≤ 9223372036854775807) : Lib.atoiAll (Lib.itoa n) = .ok n := by
  obtain ⟨d1, d2, d3⟩ := decDigits_fact n.natAbs
  have hm : Lib.parseMag (Lib.decDigits n.natAbs) = .ok n.natAbs := by
    unfold Lib.parseMag; rw [if_neg d3, parseUint_of _ _ d2 (by unfold decV at d1; omega)]
    unfold decV at d1; rw [d1]
  rcases Int.lt_or_le n 0 with hn | hn
  · rw [(itoa_head n).1 hn]
    unfold Lib.atoiAll
    simp only [show (45 : UInt8).toNat = 45 from rfl, or_true, if_true]
    rw [hm]
    simp only [not_true_eq_false, false_and, if_false, true_and]
    rw [if_neg (by omega)]
    have : -(n.natAbs : Int) = n := by omega
    rw [this]
  · rw [(itoa_head n).2 hn]
    obtain ⟨b, l, hb, hd⟩ := digits_head n.natAbs
    have hb2 := digB_iff.1 hd
    rw [hb] at hm ⊢
    unfold Lib.atoiAll
    have e1 : ¬ (b.toNat = 43 ∨ b.toNat = 45) := by omega
    have e2 : ¬ (b.toNat = 45) := by omega
    simp only [if_neg e1]
    rw [hm]
    simp only [e2, not_false_eq_true, true_and, false_and, if_false]
    rw [if_neg (by omega)]
    have : (n.natAbs : Int) = n := by omega
    rw [this]

/-- what a text says as a number: the number whose text it is -/
def IsNum (s : ByteArray) (n : Int) : Prop := (-9223372036854775808 ≤ n ∧ n ≤ 9223372036854775807) ∧ fmtInt n = s
open Classical in
noncomputable def parseI (s : ByteArray) : Option Int := if h : ∃ n, IsNum s n then some h.choose else none
theorem IsNum.uniq {s : ByteArray} {n m : Int} (h : IsNum s n) (k : IsNum s m) : n = m := fmtInt_inj (h.2.trans k.2.symm)
theorem parseI_some {s : ByteArray} {n : Int} (h : IsNum s n) : parseI s = some n := by
  unfold parseI
  have hex : ∃ n, IsNum s n := ⟨n, h⟩
  rw [dif_pos hex, hex.choose_spec.uniq h]
theorem parseI_num {s : ByteArray} {n : Int} (h : parseI s = some n) : IsNum s n := by
  unfold parseI at h
  split at h
  · rename_i hex; rw [← Option.some.inj h]; exact hex.choose_spec
  · cases h
theorem parseI_none {s : ByteArray} (h : parseI s = none) (n : Int) : ¬ IsNum s n := fun k => by rw [parseI_some k] at h; cases h
theorem parseI_atoi {s : ByteArray} {n : Int} (h : parseI s = some n) : Lib.atoiAll s.data.toList = .ok n := by
  have k := parseI_num h
  rw [← k.2]; exact atoi_itoa k.1.1 k.1.2
/-- what the digits of a number's text are -/
theorem IsNum.pos {s : ByteArray} {n : Int} (h : IsNum s n) (h0 : 0 ≤ n) : decV s.data.toList = n.natAbs ∧ s.data.toList.all digB = true ∧ 0 < s.size ∧ s.size ≤ 19 := by
  obtain ⟨hI, rfl⟩ := h
  obtain ⟨d1, d2, d3⟩ := decDigits_fact n.natAbs
  have e : (fmtInt n).data.toList = Lib.decDigits n.natAbs := (itoa_head n).2 h0
  rw [ba_size, e]
  have := decDigits_len n.natAbs 18 (by omega)
  exact ⟨d1, d2, List.length_pos_iff.2 d3, this⟩
theorem IsNum.neg {s : ByteArray} {n : Int} (h : IsNum s n) (h0 : n < 0) : ∃ l, s.data.toList = 45 :: l ∧ decV l = n.natAbs ∧ l.all digB = true ∧ 0 < l.length ∧ l.length ≤ 19 := by
  obtain ⟨hI, rfl⟩ := h
  obtain ⟨d1, d2, d3⟩ := decDigits_fact n.natAbs
  refine ⟨Lib.decDigits n.natAbs, (itoa_head n).1 h0, d1, d2, List.length_pos_iff.2 d3, decDigits_len n.natAbs 18 (by omega)⟩
end Go.Proofs.YtningnjdafhgkaaDoor

namespace Go.Proofs.YtningnjdafhgkaaDoor
open Go.RowKit

theorem infoStr : (Tryd.prog.info? 9).map (fun i => (i.zero, i.size, i.bytes)) = some (some (.string ⟨#[]⟩), 1, 16) := by kernel_rfl

set_option maxHeartbeats 1000000 in
set_option maxRecDepth 100000 in
theorem idxByte_lite (s : ByteArray) (c : Int) (w : World) :
    Calls Tryd.prog 44 #[.string s, .int .u8 c] w fun e w' => e = .returned (.int .i64 (Lib.indexByte s.data.toList c.toNat.toUInt8)) ∧ w' = w := by
  go_enter Tryd.func44, Tryd.ntmps44
  go_wp2
  rw [run_callFunc_extern Tryd.func51 (by kernel_rfl) (by kernel_rfl) (by kernel_rfl) (e := Extern.BytealgIndexByte.indexByte) (by kernel_rfl), Lib.run_indexByteString]
  simp only [Result.andThen]
  rw [Oper.upon_value]
  go_wp2
  go_ret
  exact ⟨rfl, rfl⟩
theorem idxByte_c (s : ByteArray) (c : Int) (w : World) :
    Calls Tryd.prog 33 #[.string s, .int .u8 c] w fun e w' => e = .returned (.int .i64 (Lib.indexByte s.data.toList c.toNat.toUInt8)) ∧ w' = w := by
  go_enter Tryd.func33, Tryd.ntmps33
  go_wp2_with (go_at_call 44; refine (idxByte_lite _ _ _).mono ?_; rintro e w' ⟨rfl, rfl⟩)
  go_ret
  exact ⟨rfl, rfl⟩
theorem idxByte_hit {b c : UInt8} (h : c = b) (w : World) : Calls Tryd.prog 33 #[.string ⟨#[b]⟩, .int .u8 c.toNat] w fun e w' => e = .returned (.int .i64 0) ∧ w = w' :=
  (idxByte_c _ _ w).mono fun e w' ⟨h1, h2⟩ => ⟨by rw [h1]; subst h; simp [Lib.indexByte], h2.symm⟩
theorem idxByte_miss {b c : UInt8} (h : c ≠ b) (w : World) : Calls Tryd.prog 33 #[.string ⟨#[b]⟩, .int .u8 c.toNat] w fun e w' => e = .returned (.int .i64 (-1)) ∧ w = w' :=
  (idxByte_c _ _ w).mono fun e w' ⟨h1, h2⟩ => ⟨by rw [h1]; have h3 : (b == c) = false := by simpa using fun e => h e.symm
                                                  simp [Lib.indexByte, h3], h2.symm⟩

theorem splitSt_hit {s : ByteArray} {b : UInt8} {k : Nat} (h : s.data.toList[k]? = some b) : splitSt s b (k + 1) = ((splitSt s b k).1 ++ [s.extract (splitSt s b k).2 k], k + 1) := by
  conv => lhs; unfold splitSt
  rw [if_pos h]
theorem splitSt_miss {s : ByteArray} {b : UInt8} {k : Nat} (h : s.data.toList[k]? ≠ some b) : splitSt s b (k + 1) = splitSt s b k := by
  conv => lhs; unfold splitSt
  rw [if_neg h]

theorem strV_extract {s : ByteArray} (hs : s.size ≤ 1048576) (i j : Nat) : (s.extract i j).size ≤ 9223372036854775807 := by have := extract_size_le s i j; omega
set_option maxHeartbeats 400000 in
set_option maxRecDepth 100000 in
theorem SplitAny_i (s : ByteArray) (b : UInt8) (w : World) (hs : s.size ≤ 1048576) : Calls Tryd.prog 21 #[.string s, .string ⟨#[b]⟩] w (New 9 StrV w (splitB s b)) := by
  go_enter Tryd.func21, Tryd.ntmps21
  go_wp2
  go_loopw [5, 6, 7] (fun v st i wr => ∃ k p : Nat, k ≤ s.size ∧ i = .int .i64 k ∧ p = (splitSt s b k).2 ∧ p ≤ k ∧ st = .int .i64 p ∧ Own 9 StrV (Iv w.heap.size wr.heap.size) wr v (splitSt s b k).1 ∧ Below w.heap.size w wr) (fun _ _ i _ => s.size - (intOf i).toNat)
  case atStart => exact ⟨0, 0, Nat.zero_le _, rfl, rfl, Nat.le_refl _, rfl, Own.nil _ _ _ _, Below.refl _ _⟩
  case round =>
    obtain ⟨k, p, hk, rfl, hp, hpk, rfl, hown, hbel⟩ := hrel
    obtain ⟨wo, rfl⟩ : ∃ wo : World, wo = wr := ⟨_, rfl⟩
    have hBs := hbel.size
    have hsl := splitSt_len s b k
    have hkl : (splitSt s b k).1.length < 1099511627776 := by omega
    have Hp := Lib.hid hp
    obtain ⟨p1, p2, p3, rfl⟩ := hown.shape
    have Hown := Lib.hid hown
    clear hp hown
    by_cases hlt : k < s.size
    · have Hat := Lib.hid (ba_at hlt)
      by_cases hb : s[k] = b
      · have Hst := Lib.hid (splitSt_hit (s := s) (b := b) (k := k) (by rw [Hat.out, hb]))
        have Hb := Lib.hid hb
        have hx := strV_extract hs p k
        clear hb
        go_wp2_with (first | (go_at_call 33; refine (idxByte_hit Hb.out _).mono ?_; rintro e w' ⟨rfl, rfl⟩) | (at_builtin; (refine wpList_appR rfl _ _ 39 rfl rStrV 9 Tryd.underlying39 infoStr rfl (by decide) w.heap.size wo.heap.size hBs (Nat.le_refl _) rfl rfl (by exact Hown.out) (by exact ⟨rfl, hx⟩) hkl ?_); intro v2 w2 hown2 hbel2 _) | fail)
        have hb2 := hbel.trans hbel2
        have Hown2 := Lib.hid hown2
        clear hown2
        go_wp2
        go_roundw
        case rel => exact ⟨k + 1, k + 1, by omega, by go_num, by rw [Hst.out], Nat.le_refl _, by go_num, by rw [Hst.out, ← Hp.out]; exact Hown2.out, hb2⟩
        case measure => simp [intOf]; omega
      · have Hst := Lib.hid (splitSt_miss (s := s) (b := b) (k := k) (by rw [Hat.out]; simpa using hb))
        go_wp2_with (first | (go_at_call 33; refine (idxByte_miss hb _).mono ?_; rintro e w' ⟨rfl, rfl⟩) | fail)
        go_roundw
        case rel => exact ⟨k + 1, p, by omega, by go_num, by rw [Hst.out]; exact Hp.out, by omega, rfl, by rw [Hst.out]; exact Hown.out, hbel⟩
        case measure => simp [intOf]; omega
    · obtain rfl : k = s.size := by omega
      have hx := strV_extract hs p s.size
      go_wp2_with (first | (at_builtin; (refine wpList_appR rfl _ _ 39 rfl rStrV 9 Tryd.underlying39 infoStr rfl (by decide) w.heap.size wo.heap.size hBs (Nat.le_refl _) rfl rfl (by exact Hown.out) (by exact ⟨rfl, hx⟩) hkl ?_); intro v2 w2 hown2 hbel2 _) | fail)
      have hb2 := hbel.trans hbel2
      have Hown2 := Lib.hid hown2
      clear hown2
      go_wp2
      go_ret
      exact ⟨_, rfl, by unfold splitB; rw [← Hp.out]; exact Hown2.out, hb2⟩
set_option maxHeartbeats 400000 in
set_option maxRecDepth 100000 in
theorem SplitAny_s (s : ByteArray) (b : UInt8) (w : World) (hs : s.size ≤ 1048576) : Calls Tryd.prog 18 #[.string s, .string ⟨#[b]⟩] w (New 9 StrV w (splitB s b)) := by
  go_enter Tryd.func18, Tryd.ntmps18
  go_wp2
  go_loopw [5, 6, 7, 8] (fun v st i _ wr => ∃ k p : Nat, k ≤ s.size ∧ i = .int .i64 k ∧ p = (splitSt s b k).2 ∧ p ≤ k ∧ st = .int .i64 p ∧ Own 9 StrV (Iv w.heap.size wr.heap.size) wr v (splitSt s b k).1 ∧ Below w.heap.size w wr) (fun _ _ i _ _ => s.size - (intOf i).toNat)
  case atStart => exact ⟨0, 0, Nat.zero_le _, rfl, rfl, Nat.le_refl _, rfl, own_lit0 _ _ _ rStrV, Below.pureAlloc _ _⟩
  case round =>
    obtain ⟨k, p, hk, rfl, hp, hpk, rfl, hown, hbel⟩ := hrel
    obtain ⟨wo, rfl⟩ : ∃ wo : World, wo = wr := ⟨_, rfl⟩
    have hBs := hbel.size
    have hsl := splitSt_len s b k
    have hkl : (splitSt s b k).1.length < 1099511627776 := by omega
    have Hp := Lib.hid hp
    obtain ⟨p1, p2, p3, rfl⟩ := hown.shape
    have Hown := Lib.hid hown
    clear hp hown
    by_cases hlt : k < s.size
    · have Hat := Lib.hid (ba_at hlt)
      have hdk : decide ((k : Int) < (s.size : Int)) = true := by simp; omega
      go_wp2
      go_loopw [5, 6, 8] (fun v st j wr => ∃ n : Nat, v = .slice p1 p2 p3 ∧ st = .int .i64 p ∧ wr = wo.drewN n ∧ (j = .int .i64 0 ∨ (j = .int .i64 1 ∧ s[k] ≠ b))) (fun _ _ j _ => 1 - (intOf j).toNat)
      case atStart => exact ⟨0, rfl, rfl, rfl, .inl rfl⟩
      case round =>
        obtain ⟨n, rfl, rfl, rfl, hj⟩ := hrel
        have hbn := below_drewN (Below.refl wo.heap.size wo) n
        have Hown' := Lib.hid (show Own 9 StrV (Iv w.heap.size (wo.drewN n).heap.size) (wo.drewN n) (Value.slice p1 p2 p3) (splitSt s b k).1 from Hown.out)
        rcases hj with rfl | ⟨rfl, hne⟩
        · by_cases hb : s[k] = b
          · have Hst := Lib.hid (splitSt_hit (s := s) (b := b) (k := k) (by rw [Hat.out, hb]))
            have hx := strV_extract hs p k
            have heq : ((s[k].toNat : Int) == (((⟨#[b]⟩ : ByteArray)[0]'(Nat.zero_lt_one)).toNat : Int)) = true := by
              show ((s[k].toNat : Int) == (b.toNat : Int)) = true
              rw [hb]; simp
            clear hb
            go_wp2
            go_quiet (fail)
            have hbn2 := below_drewN (Below.refl wo.heap.size wo) (n + nq)
            have Hown2' := Lib.hid (show Own 9 StrV (Iv w.heap.size (wo.drewN (n + nq)).heap.size) (wo.drewN (n + nq)) (Value.slice p1 p2 p3) (splitSt s b k).1 from Hown.out)
            go_wp2_with (first | (at_builtin; (refine wpList_appR rfl _ _ 39 rfl rStrV 9 Tryd.underlying39 infoStr rfl (by decide) w.heap.size wo.heap.size hBs (show wo.heap.size ≤ (wo.drewN (n + nq)).heap.size from Nat.le_refl _) rfl rfl (by exact Hown2'.out) (by exact ⟨rfl, hx⟩) hkl ?_); intro v2 w2 hown2 hbel2 _) | fail)
            have hb2 := (hbel.trans (hbn2.mono hBs)).trans hbel2
            have Hown2 := Lib.hid hown2
            clear hown2
            go_wp2
            go_roundw
            case rel => exact ⟨k + 1, k + 1, by omega, by go_num, by rw [Hst.out], Nat.le_refl _, by go_num, by rw [Hst.out, ← Hp.out]; exact Hown2.out, hb2⟩
            case measure => simp [intOf]; omega
          · have Hst := Lib.hid (splitSt_miss (s := s) (b := b) (k := k) (by rw [Hat.out]; simpa using hb))
            have heq : ((s[k].toNat : Int) == (((⟨#[b]⟩ : ByteArray)[0]'(Nat.zero_lt_one)).toNat : Int)) = false := by
              show ((s[k].toNat : Int) == (b.toNat : Int)) = false
              rw [beq_eq_false_iff_ne]; intro h; exact hb (UInt8.toNat_inj.1 (by omega))
            go_wp2
            go_quiet (fail)
            go_wp2
            go_roundw
            case rel => exact ⟨_, rfl, rfl, rfl, .inr ⟨by go_num, hb⟩⟩
            case measure => simp [intOf]
        · have Hst := Lib.hid (splitSt_miss (s := s) (b := b) (k := k) (by rw [Hat.out]; simpa using hne))
          clear hne
          go_wp2
          go_roundw
          case rel => exact ⟨k + 1, p, by omega, by go_num, by rw [Hst.out]; exact Hp.out, by omega, rfl, by rw [Hst.out]; exact Hown'.out, hbel.trans (hbn.mono hBs)⟩
          case measure => simp [intOf]; omega
    · obtain rfl : k = s.size := by omega
      have hx := strV_extract hs p s.size
      go_wp2_with (first | (at_builtin; (refine wpList_appR rfl _ _ 39 rfl rStrV 9 Tryd.underlying39 infoStr rfl (by decide) w.heap.size wo.heap.size hBs (Nat.le_refl _) rfl rfl (by exact Hown.out) (by exact ⟨rfl, hx⟩) hkl ?_); intro v2 w2 hown2 hbel2 _) | fail)
      have hb2 := hbel.trans hbel2
      have Hown2 := Lib.hid hown2
      clear hown2
      go_wp2
      go_ret
      exact ⟨_, rfl, by unfold splitB; rw [← Hp.out]; exact Hown2.out, hb2⟩
end Go.Proofs.YtningnjdafhgkaaDoor

namespace Go.Proofs.YtningnjdafhgkaaDoor
open Go.RowKit

theorem run_byte1 {P : Program} (w : World) (src dst e : TypeId) (z : Int) (hs : P.underlying src = some (.slice e)) (he : P.underlying e = some (.int .u8)) (hd : P.underlying dst = some .string) :
    (convert src dst (.slice (some ⟨w.heap.size, 0, none⟩) 1 1)).run P (w.alloc (.cells #[.int .u8 z] e)) = .ok (.string ⟨#[UInt8.ofNat z.toNat]⟩) (w.alloc (.cells #[.int .u8 z] e)) := by
  rw [run_convert_bytes_string _ _ _ _ _ _ _ hs he hd]
  have hl : (loadCells ⟨w.heap.size, 0, none⟩ 1).run P (w.alloc (.cells #[.int .u8 z] e)) = .ok ([z].map (Value.int .u8)).toArray (w.alloc (.cells #[.int .u8 z] e)) := by
    have := run_loadCells_list (P := P) (w.alloc (.cells #[.int .u8 z] e)) ⟨w.heap.size, 0, none⟩ [.int .u8 z] (cell_new1 w _ e)
    simpa using this
  rw [run_bytesToString _ _ _ _ _ hl]
  rfl

theorem below_undrew {w w2 : World} (h : Below w.drew.heap.size w.drew w2) : Below w.heap.size w w2 := ⟨h.os, h.tape, h.output, h.size, h.block⟩
theorem retS1 {b b' : ByteArray} (h : b = b') : Ending.returned (.string b) = Ending.returned (.string b') := by rw [h]
theorem tdiv10 {n : Int} (h : n ≤ 0) : n.tdiv 10 = -((-n) / 10) := by
  have h2 : (-(-n)).tdiv 10 = -((-n).tdiv 10) := Int.neg_tdiv ..
  rw [Int.neg_neg, Int.tdiv_eq_ediv_of_nonneg (a := -n) (by omega)] at h2
  exact h2
theorem tmod10 (n : Int) : n.tmod 10 = n - 10 * n.tdiv 10 := Int.tmod_def n 10
theorem byte1 (w : World) (z : Int) : (convert 28 9 (.slice (some ⟨w.heap.size, 0, none⟩) 1 1)).run Tryd.prog (w.alloc (.cells #[.int .u8 z] 5)) = .ok (.string ⟨#[UInt8.ofNat z.toNat]⟩) (w.alloc (.cells #[.int .u8 z] 5)) :=
  run_byte1 w _ _ _ z Tryd.underlying28 Tryd.underlying5 Tryd.underlying9
theorem byteAt (w : World) (g : Nat) (z : Int) (h : w.cell? ⟨g, 0, none⟩ = some (.int .u8 z)) : (convert 28 9 (.slice (some ⟨g, 0, none⟩) 1 1)).run Tryd.prog w = .ok (.string ⟨#[UInt8.ofNat z.toNat]⟩) w := by
  rw [run_convert_bytes_string _ _ _ _ _ _ _ Tryd.underlying28 Tryd.underlying5 Tryd.underlying9]
  have hl : (loadCells ⟨g, 0, none⟩ 1).run Tryd.prog w = .ok ([z].map (Value.int .u8)).toArray w := by
    have := run_loadCells_list (P := Tryd.prog) w ⟨g, 0, none⟩ [.int .u8 z] (fun j v hj => by
      match j, hj with
      | 0, hj => simp at hj; subst hj; simpa [Addr.add] using h)
    simpa using this
  rw [run_bytesToString _ _ _ _ _ hl]
  rfl
theorem byteKept {w w2 : World} {z : Int} (hb : Below (w.alloc (.cells #[.int .u8 z] 5)).drew.heap.size (w.alloc (.cells #[.int .u8 z] 5)).drew w2) : (convert 28 9 (.slice (some ⟨w.heap.size, 0, none⟩) 1 1)).run Tryd.prog w2 = .ok (.string ⟨#[UInt8.ofNat z.toNat]⟩) w2 :=
  byteAt w2 w.heap.size z ((hb.cell (p := ⟨w.heap.size, 0, none⟩) (by simp)).trans (by simp))
theorem byte1d (w : World) (z : Int) : (convert 28 9 (.slice (some ⟨w.heap.size, 0, none⟩) 1 1)).run Tryd.prog (w.alloc (.cells #[.int .u8 z] 5)).drew = .ok (.string ⟨#[UInt8.ofNat z.toNat]⟩) (w.alloc (.cells #[.int .u8 z] 5)).drew :=
  byteAt _ w.heap.size z (by simp)
theorem b1_size (z : UInt8) : (⟨#[z]⟩ : ByteArray).size = 1 := rfl
set_option maxRecDepth 100000 in
set_option maxHeartbeats 400000 in
theorem FormatInt_s0 (n : Int) (hn : I64 n) (h0 : 0 ≤ n) (w : World) : Calls Tryd.prog 31 #[.int .i64 n] w fun e w' => e = .returned (.string (fmtInt n)) ∧ Below w.heap.size w w' := by
  obtain ⟨hn1, hn2⟩ := hn.out
  have hfs := fmt_size ⟨hn1, hn2⟩
  go_enter Tryd.func31, Tryd.ntmps31
  go_wp2
  go_loopw [0, 3] (fun nv s wr => ∃ (m : Int) (t : ByteArray), nv = .int .i64 m ∧ s = .string t ∧ 0 ≤ m ∧ m ≤ 9223372036854775807 ∧ fmtInt n = fmtInt m ++ t ∧ t.size ≤ 20 ∧ Below w.heap.size w wr) (fun nv _ _ => (intOf nv).toNat)
  case atStart => exact ⟨n, ByteArray.empty, rfl, rfl, h0, hn2, by apply ba_ext; simp, by simp, Below.refl _ _⟩
  case round =>
    obtain ⟨m, t, rfl, rfl, hm0, hm1, hf, hts, hbel⟩ := hrel
    obtain ⟨wo, rfl⟩ : ∃ wo : World, wo = wr := ⟨_, rfl⟩
    have hts2 : t.size + (fmtInt m).size ≤ 20 := by rw [hf, ba_append_size] at hfs; omega
    have Hf := Lib.hid hf
    clear hf
    by_cases h9 : 9 < m
    · have hst := fmt_step h9
      have Hst := Lib.hid (show fmtInt n = fmtInt (m / 10) ++ (⟨#[UInt8.ofNat (48 + m % 10).toNat]⟩ ++ t) from by
        rw [Hf.out, hst]
        have e : 48 + (m % 10).toNat = (48 + m % 10).toNat := by omega
        rw [e]; apply ba_ext; simp [List.append_assoc])
      have hz := b1_size (UInt8.ofNat (48 + m % 10).toNat)
      have hsz : (⟨#[UInt8.ofNat (48 + m % 10).toNat]⟩ ++ t : ByteArray).size ≤ 20 := by
        have h1 := congrArg ByteArray.size hst
        rw [ba_append_size, b1_size] at h1
        rw [ba_append_size, b1_size]; omega
      have hc := byte1 wo (48 + m % 10)
      clear hst
      go_wp2
      go_roundw
      case rel => exact ⟨m / 10, _, by go_num, rfl, by omega, by omega, Hst.out, hsz, hbel.alloc hbel.size _⟩
      case measure => simp [intOf]; omega
    · have Hst := Lib.hid (show fmtInt n = ⟨#[UInt8.ofNat (48 + m).toNat]⟩ ++ t from by
        rw [Hf.out, fmt_digit hm0 (by omega)]
        have e : 48 + m.toNat = (48 + m).toNat := by omega
        rw [e])
      have hz := b1_size (UInt8.ofNat (48 + m).toNat)
      have hc := byte1 wo (48 + m)
      go_wp2
      go_ret
      exact ⟨retS1 Hst.out.symm, hbel.alloc hbel.size _⟩
set_option maxRecDepth 100000 in
set_option maxHeartbeats 400000 in
theorem FormatInt_sN (N : Nat) : ∀ (n : Int), I64 n → n < 0 → n.natAbs ≤ N → ∀ w : World, Calls Tryd.prog 31 #[.int .i64 n] w fun e w' => e = .returned (.string (fmtInt n)) ∧ Below w.heap.size w w' := by
  induction N with
  | zero => intro n _ h0 hN; omega
  | succ N ih =>
    intro n hn h0 hN w
    obtain ⟨hn1, hn2⟩ := hn.out
    by_cases h10 : -10 < n
    · have Hf := Lib.hid (show fmtInt n = ⟨#[45]⟩ ++ ⟨#[UInt8.ofNat (48 - n).toNat]⟩ from by
        rw [fmt_neg1 h0 h10]
        have e : 48 + (-n).toNat = (48 - n).toNat := by omega
        rw [e])
      have hq : (n.tdiv 10 == 0) = true := by
        rw [beq_iff_eq, tdiv10 (by omega)]; omega
      have hz := b1_size (UInt8.ofNat (48 - n).toNat)
      have hc := byte1 w (48 - n)
      go_enter Tryd.func31, Tryd.ntmps31
      go_wp2
      go_ret
      exact ⟨retS1 Hf.out.symm, Below.pureAlloc _ _⟩
    · have Hf := Lib.hid (show fmtInt n = fmtInt (n.tdiv 10) ++ ⟨#[UInt8.ofNat (48 - n.tmod 10).toNat]⟩ from by
        rw [fmt_neg (by omega)]
        have e : 48 + (-(n.tmod 10)).toNat = (48 - n.tmod 10).toNat := by
          have h1 := tmod10 n
          have h2 := tdiv10 (n := n) (by omega)
          omega
        rw [e])
      have hd := tdiv10 (n := n) (by omega)
      have hmo := tmod10 n
      have hq : (n.tdiv 10 == 0) = false := by
        rw [beq_eq_false_iff_ne]; omega
      have hm1 : 0 ≤ 48 - n.tmod 10 := by omega
      have hm2 : 48 - n.tmod 10 ≤ 255 := by omega
      have hm3 : -9 ≤ n.tmod 10 := by omega
      have hm4 : n.tmod 10 ≤ 0 := by omega
      have hIq : I64 (n.tdiv 10) := ⟨by omega, by omega⟩
      have hqn : n.tdiv 10 < 0 := by omega
      have hqN : (n.tdiv 10).natAbs ≤ N := by omega
      have hfs := fmt_size hIq.out
      have hw1 : IntKind.i64.wrap (n.tdiv 10) = n.tdiv 10 := by rw [IntKind.wrap_i64]; omega
      have hw2 : IntKind.i64.wrap (n.tmod 10) = n.tmod 10 := by rw [IntKind.wrap_i64]; omega
      have hw3 : IntKind.i64.wrap (48 - n.tmod 10) = 48 - n.tmod 10 := by rw [IntKind.wrap_i64]; omega
      have hw4 : IntKind.u8.wrap (48 - n.tmod 10) = 48 - n.tmod 10 := by rw [IntKind.wrap_u8]; omega
      have hz := b1_size (UInt8.ofNat (48 - n.tmod 10).toNat)
      have hc := byte1d w (48 - n.tmod 10)
      have IH := Lib.hid (ih (n.tdiv 10) hIq hqn hqN)
      clear ih hd hmo
      go_enter Tryd.func31, Tryd.ntmps31
      go_wp2
      go_region_with (go_at_call 31; refine (IH.out _).mono ?_; rintro e w2 ⟨rfl, hb2⟩; have hc2 := byte1 w2 (48 - n.tmod 10); first | (have hc3 := byteKept hb2) | skip)
      all_goals go_wp2
      all_goals go_ret
      all_goals refine ⟨retS1 Hf.out.symm, ?_⟩
      all_goals first
        | exact (below_undrew hb2).alloc (by have := hb2.size; exact this) _
        | exact (Below.pureAlloc w _).trans_pure (below_undrew hb2) (by simp)
        | exact below_undrew hb2
theorem FormatInt_s (n : Int) (hn : I64 n) (w : World) : Calls Tryd.prog 31 #[.int .i64 n] w fun e w' => e = .returned (.string (fmtInt n)) ∧ Below w.heap.size w w' := by
  rcases Int.lt_or_le n 0 with h | h
  · exact FormatInt_sN n.natAbs n hn h (Nat.le_refl _) w
  · exact FormatInt_s0 n hn h w
end Go.Proofs.YtningnjdafhgkaaDoor

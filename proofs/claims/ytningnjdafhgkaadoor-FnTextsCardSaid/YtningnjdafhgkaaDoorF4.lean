/- Contracts: numbers as texts: FormatInt of the program, over the table that strconv reads. Contracts: lists of numbers, grids and puzzles as texts. -/
import Derived.Test.YtningnjdafhgkaaDoorT1
import Derived.Test.YtningnjdafhgkaaDoorShelf
import Derived.Lib.LaidTab
import Derived.Test.YtningnjdafhgkaaDoorT3
import Derived.Test.YtningnjdafhgkaaDoorC1
namespace Go.Proofs.YtningnjdafhgkaaDoor
open Go.RowKit

/-- the library's table of powers of ten holds what its initialiser lays -/
def Tab (w : World) : Prop := Lib.TabIs Tryd.prog w "internal/strconv.uint64pow10" .u64 Lib.pow10Tab
theorem Tab.keep {w w' : World} (h : Tab w) (hb : Below w.heap.size w w') : Tab w' := by
  have hg : Tryd.prog.globalNamed "internal/strconv.uint64pow10" = some 3 := by kernel_rfl
  unfold Tab Lib.TabIs World.var? at h ⊢
  rw [hg] at h ⊢
  simp only [Option.bind_some] at h ⊢
  have hlt : 3 < w.heap.size := by
    rcases Nat.lt_or_ge 3 w.heap.size with h' | h'
    · exact h'
    · rw [Array.getElem?_eq_none h'] at h; cases h
  rw [hb.block _ hlt]
  exact h
theorem below_grow {w w' : World} (h : ∃ k os, w' = Go.Sort.grow (w.drewN k) os) : Below w.heap.size w w' := by
  obtain ⟨k, os, rfl⟩ := h
  refine ⟨rfl, rfl, rfl, by simp, fun b hb => ?_⟩
  show (w.heap ++ os)[b]? = _
  rw [Array.getElem?_append, if_pos hb]
theorem FormatInt_i (n : Int) (hn : I64 n) (w : World) (ht : Tab w) : Calls Tryd.prog 35 #[.int .i64 n] w fun e w' => e = .returned (.string (fmtInt n)) ∧ Below w.heap.size w w' := by
  obtain ⟨h1, h2⟩ := hn.out
  go_enter Tryd.func35, Tryd.ntmps35
  go_wp2_with (first | (go_at_call 47; refine (Tryd.strconv_Itoa n h1 h2 _ ht).mono ?_; rintro e w' ⟨rfl, hg⟩))
  have hb := below_grow hg
  clear hg
  go_ret
  exact ⟨rfl, hb⟩
end Go.Proofs.YtningnjdafhgkaaDoor

namespace Go.Proofs.YtningnjdafhgkaaDoor
open Go.RowKit

def intsText (sep : ByteArray) (l : List Int) : ByteArray := joinB sep (l.map fmtInt)
def sumsText (l : List Int) : ByteArray := if l = [] then ⟨#[45]⟩ else intsText ⟨#[44]⟩ l
def gridText (g : List (List Int)) : ByteArray := joinB ⟨#[47]⟩ (g.map (intsText ⟨#[32]⟩))
def runsText (g : List (List Int)) : ByteArray := joinB ⟨#[32]⟩ (g.map sumsText)
def Ints64 (l : List Int) : Prop := ∀ x ∈ l, I64 x
theorem ints_64 {w : World} {v : Value} {l : List Int} (h : Ints w v l) : Ints64 l := by
  intro x hx
  obtain ⟨k, hk⟩ := List.getElem?_of_mem hx
  obtain ⟨b, o, c, rfl, -, -⟩ := h.inv_ne (by have := (List.getElem?_eq_some_iff.1 hk).1; omega)
  obtain ⟨u, -, -, hI⟩ := Sl.at h hk
  exact hI
theorem grid_64 {w : World} {v : Value} {g : List (List Int)} (h : Grid w v g) : ∀ r ∈ g, Ints64 r := by
  intro r hr
  obtain ⟨k, hk⟩ := List.getElem?_of_mem hr
  obtain ⟨b, o, c, rfl, -, -⟩ := h.inv_ne (by have := (List.getElem?_eq_some_iff.1 hk).1; omega)
  obtain ⟨u, -, hu⟩ := Sl.at h hk
  exact ints_64 (show Ints w u r from hu)
theorem ints_bulk {sep : ByteArray} {l : List Int} (hs : sep.size ≤ 1) (h : Ints64 l) : bulkB sep (l.map fmtInt) ≤ l.length * 21 := by
  have h1 := bulkB_le sep (xs := l.map fmtInt) (m := 20) (fun x hx => by
    obtain ⟨n, hn, rfl⟩ := List.mem_map.1 hx
    exact fmt_size (h n hn).out)
  rw [List.length_map] at h1
  have h2 : l.length * (20 + sep.size) ≤ l.length * 21 := Nat.mul_le_mul_left _ (by omega)
  omega
theorem intsText_size {sep : ByteArray} {l : List Int} (hs : sep.size ≤ 1) (h : Ints64 l) : (intsText sep l).size ≤ l.length * 21 := Nat.le_trans (joinB_size _ _) (ints_bulk hs h)
theorem sumsText_size {l : List Int} (h : Ints64 l) : (sumsText l).size ≤ l.length * 21 + 1 := by
  unfold sumsText
  split
  · show 1 ≤ _; omega
  · have := intsText_size (sep := ⟨#[44]⟩) (by decide) h; omega
theorem rows_bulk {sep : ByteArray} {f : List Int → ByteArray} {g : List (List Int)} (hs : sep.size ≤ 1) (h : ∀ r ∈ g, (f r).size ≤ r.length * 21 + 1) : bulkB sep (g.map f) ≤ cells g * 21 + g.length * 2 := by
  induction g with
  | nil => simp [bulkB]
  | cons r g ih =>
    have h1 := h r (by simp)
    have h2 := ih (fun x hx => h x (by simp [hx]))
    have h3 : cells (r :: g) = r.length + cells g := by simp [cells]
    simp only [List.map_cons, bulkB, List.length_cons]
    omega
theorem map_take_S {α : Type} (f : α → ByteArray) {l : List α} {k : Nat} {x : α} (h : l[k]? = some x) : (l.take (k + 1)).map f = (l.take k).map f ++ [f x] := by
  rw [List.take_add_one, h]; simp
theorem strs_of {E : TypeId} {S : Bk} {w : World} {v : Value} {xs : List ByteArray} (h : Own E StrV S w v xs) : Strs w v xs := (rSl rStrV).rd (h.sl (fun _ _ _ _ h => h) rStrV)
theorem mem_len {r : List Int} {g : List (List Int)} (h : r ∈ g) : r.length ≤ cells g := by
  induction g with
  | nil => simp at h
  | cons a g ih =>
    have e : cells (a :: g) = a.length + cells g := by simp [cells]
    rcases List.mem_cons.1 h with rfl | h
    · omega
    · have := ih h; omega
set_option maxRecDepth 100000 in
set_option maxHeartbeats 800000 in
theorem texts_c (v : Value) (l : List Int) (w : World) (hv : Ints w v l) (hl : l.length ≤ 2097152) (ht : Tab w) : Calls Tryd.prog 28 #[v] w (New 9 StrV w (l.map fmtInt)) := by
  have Hv := Lib.hid hv
  have HI := Lib.hid (ints_64 hv)
  have Ht := Lib.hid ht; clear ht
  obtain ⟨a, cap0, rfl, -⟩ := hv
  go_enter Tryd.func28, Tryd.ntmps28
  go_wp2
  go_loopw [3, 5, 8] (fun v _ i wr => ∃ k : Nat, k ≤ l.length ∧ i = .int .i64 k ∧ Own 9 StrV (Iv w.heap.size wr.heap.size) wr v ((l.take k).map fmtInt) ∧ Below w.heap.size w wr) (fun _ _ i _ => l.length - (intOf i).toNat)
  case atStart => exact ⟨0, Nat.zero_le _, rfl, Own.nil _ _ _ _, Below.refl _ _⟩
  case round =>
    obtain ⟨k, hk, rfl, hown, hbel⟩ := hrel
    obtain ⟨wo, rfl⟩ : ∃ wo : World, wo = wr := ⟨_, rfl⟩
    have hBs := hbel.size
    by_cases hlt : k < l.length
    · obtain ⟨x, hx⟩ : ∃ x, l[k]? = some x := ⟨_, List.getElem?_eq_getElem hlt⟩
      obtain ⟨b, off, cpr, he, hb, -⟩ := Hv.out.inv_ne (by omega)
      obtain ⟨rfl, -⟩ : a = some ⟨b, off, none⟩ ∧ cap0 = cpr := by simpa using he
      obtain ⟨u, hck, hu⟩ := Sl.at Hv.out hx
      obtain ⟨rfl, hI⟩ := hu
      rw [← hbel.cell (p := ⟨b, off + k, none⟩) hb] at hck
      have Hst := Lib.hid (map_take_S fmtInt hx)
      have hkl : ((l.take k).map fmtInt).length < 1099511627776 := by simp; omega
      have Hto := Lib.hid (Ht.out.keep hbel)
      obtain ⟨p1, p2, p3, rfl⟩ := hown.shape
      have Hown := Lib.hid hown
      clear hx hown he
      go_wp2_with (fail)
      refine (FormatInt_i x hI _ Hto.out).mono ?_
      rintro e w1 ⟨rfl, hb1⟩
      have hs1 : wo.heap.size ≤ w1.heap.size := hb1.size
      have hsz : (fmtInt x).size ≤ 9223372036854775807 := by have := fmt_size hI.out; omega
      go_wp2_with (first | (at_builtin; (refine wpList_appR rfl _ _ 39 rfl rStrV 9 Tryd.underlying39 infoStr rfl (by decide) w.heap.size wo.heap.size hBs hs1 rfl rfl (by exact Own.keep rStrV Hown.out hb1 (Nat.le_refl _)) (by exact ⟨rfl, hsz⟩) hkl ?_); intro v2 w2 hown2 hbel2 _) | fail)
      have hb2 := (hbel.trans (hb1.mono hBs)).trans hbel2
      have Hown2 := Lib.hid hown2
      clear hown2
      go_wp2
      go_roundw
      case rel => exact ⟨k + 1, by omega, by go_num, by rw [Hst.out]; exact Hown2.out, hb2⟩
      case measure => simp [intOf]; omega
    · have hfin := hown
      rw [List.take_of_length_le (by omega)] at hfin
      obtain ⟨p1, p2, p3, rfl⟩ := hown.shape
      have Hfin := Lib.hid hfin
      clear hown hfin
      go_wp2
      go_ret
      exact ⟨_, rfl, Hfin.out, hbel⟩
set_option maxRecDepth 100000 in
set_option maxHeartbeats 800000 in
theorem l15Ints_c (v : Value) (l : List Int) (sep : ByteArray) (w : World) (hv : Ints w v l) (hl : l.length ≤ 2097152) (hsep : sep.size ≤ 1) : Calls Tryd.prog 32 #[v, .string sep] w (fun e w' => e = .returned (.string (intsText sep l)) ∧ Below w.heap.size w w') := by
  have Hv := Lib.hid hv
  have HI := Lib.hid (ints_64 hv)
  have Hbk := Lib.hid (show bulkB sep (l.map fmtInt) ≤ 1099511627776 from by have := ints_bulk hsep HI.out; omega)
  obtain ⟨a, cap0, rfl, -⟩ := hv
  go_enter Tryd.func32, Tryd.ntmps32
  go_wp2
  go_loopw [5, 7, 11] (fun v _ i wr => ∃ k : Nat, k ≤ l.length ∧ i = .int .i64 k ∧ Own 9 StrV (Iv w.heap.size wr.heap.size) wr v ((l.take k).map fmtInt) ∧ Below w.heap.size w wr) (fun _ _ i _ => l.length - (intOf i).toNat)
  case atStart => exact ⟨0, Nat.zero_le _, rfl, own_lit0 _ _ _ rStrV, Below.pureAlloc _ _⟩
  case round =>
    obtain ⟨k, hk, rfl, hown, hbel⟩ := hrel
    obtain ⟨wo, rfl⟩ : ∃ wo : World, wo = wr := ⟨_, rfl⟩
    have hBs := hbel.size
    by_cases hlt : k < l.length
    · obtain ⟨x, hx⟩ : ∃ x, l[k]? = some x := ⟨_, List.getElem?_eq_getElem hlt⟩
      obtain ⟨b, off, cpr, he, hb, -⟩ := Hv.out.inv_ne (by omega)
      obtain ⟨rfl, -⟩ : a = some ⟨b, off, none⟩ ∧ cap0 = cpr := by simpa using he
      obtain ⟨u, hck, hu⟩ := Sl.at Hv.out hx
      obtain ⟨rfl, hI⟩ := hu
      rw [← hbel.cell (p := ⟨b, off + k, none⟩) hb] at hck
      have Hst := Lib.hid (map_take_S fmtInt hx)
      have hkl : ((l.take k).map fmtInt).length < 1099511627776 := by simp; omega
      obtain ⟨p1, p2, p3, rfl⟩ := hown.shape
      have Hown := Lib.hid hown
      clear hx hown he
      go_wp2_with (fail)
      refine (FormatInt_s x hI _).mono ?_
      rintro e w1 ⟨rfl, hb1⟩
      have hs1 : wo.heap.size ≤ w1.heap.size := hb1.size
      have hsz : (fmtInt x).size ≤ 9223372036854775807 := by have := fmt_size hI.out; omega
      go_wp2_with (first | (at_builtin; (refine wpList_appR rfl _ _ 39 rfl rStrV 9 Tryd.underlying39 infoStr rfl (by decide) w.heap.size wo.heap.size hBs hs1 rfl rfl (by exact Own.keep rStrV Hown.out hb1 (Nat.le_refl _)) (by exact ⟨rfl, hsz⟩) hkl ?_); intro v2 w2 hown2 hbel2 _) | fail)
      have hb2 := (hbel.trans (hb1.mono hBs)).trans hbel2
      have Hown2 := Lib.hid hown2
      clear hown2
      go_wp2
      go_roundw
      case rel => exact ⟨k + 1, by omega, by go_num, by rw [Hst.out]; exact Hown2.out, hb2⟩
      case measure => simp [intOf]; omega
    · have hfin := hown
      rw [List.take_of_length_le (by omega)] at hfin
      obtain ⟨p1, p2, p3, rfl⟩ := hown.shape
      have Hfin := Lib.hid hfin
      clear hown hfin
      have Hst := Lib.hid (strs_of Hfin.out)
      go_wp2_with (fail)
      refine (Join_s _ _ _ _ Hst.out Hbk.out).mono ?_
      rintro e w2 ⟨rfl, rfl⟩
      go_wp2
      go_ret
      exact ⟨rfl, hbel⟩
theorem FormatSums_i (v : Value) (l : List Int) (w : World) (hv : Ints w v l) (hl : l.length ≤ 2097152) (ht : Tab w) : Calls Tryd.prog 14 #[v] w fun e w' => e = .returned (.string (sumsText l)) ∧ Below w.heap.size w w' := by
  have HI := Lib.hid (ints_64 hv)
  have Hv := Lib.hid hv
  obtain ⟨a, cap0, rfl, -⟩ := hv
  by_cases h0 : l = []
  · subst h0
    have Hr := Lib.hid (show sumsText [] = ⟨#[45]⟩ from rfl)
    go_enter Tryd.func14, Tryd.ntmps14
    go_wp2
    go_ret
    exact ⟨retS Hr.out.symm, Below.refl _ _⟩
  · have Hr := Lib.hid (show sumsText l = intsText ⟨#[44]⟩ l from by unfold sumsText; rw [if_neg h0])
    have hpos : 0 < l.length := List.length_pos_iff.2 h0
    have hne : ((l.length : Int) == 0) = false := by rw [beq_eq_false_iff_ne]; omega
    have Hbk := Lib.hid (show bulkB ⟨#[44]⟩ (l.map fmtInt) ≤ 1099511627776 from by have := ints_bulk (sep := ⟨#[44]⟩) (by decide) HI.out; omega)
    clear h0
    go_enter Tryd.func14, Tryd.ntmps14
    go_wp2_with (fail)
    refine (texts_c _ _ _ Hv.out hl ht).mono ?_
    rintro e w1 ⟨v1, rfl, o1, b1⟩
    have Hst := Lib.hid (strs_of o1)
    go_wp2_with (fail)
    refine (Join_i _ _ _ _ Hst.out Hbk.out (by simp; omega)).mono ?_
    rintro e w2 ⟨rfl, b2⟩
    have bb := b1.trans_pure b2 (Nat.le_refl _)
    go_wp2
    go_ret
    exact ⟨retS Hr.out.symm, bb⟩
theorem FormatSums_s (v : Value) (l : List Int) (w : World) (hv : Ints w v l) (hl : l.length ≤ 2097152) : Calls Tryd.prog 20 #[v] w fun e w' => e = .returned (.string (sumsText l)) ∧ Below w.heap.size w w' := by
  have Hv := Lib.hid hv
  obtain ⟨a, cap0, rfl, -⟩ := hv
  by_cases h0 : l = []
  · subst h0
    have Hr := Lib.hid (show sumsText [] = ⟨#[45]⟩ from rfl)
    go_enter Tryd.func20, Tryd.ntmps20
    go_wp2
    go_ret
    exact ⟨retS Hr.out.symm, Below.refl _ _⟩
  · have Hr := Lib.hid (show sumsText l = intsText ⟨#[44]⟩ l from by unfold sumsText; rw [if_neg h0])
    have hpos : 0 < l.length := List.length_pos_iff.2 h0
    have hne : ((l.length : Int) == 0) = false := by rw [beq_eq_false_iff_ne]; omega
    clear h0
    go_enter Tryd.func20, Tryd.ntmps20
    go_wp2_with (fail)
    refine (l15Ints_c _ _ _ _ Hv.out hl (by decide)).mono ?_
    rintro e w1 ⟨rfl, b1⟩
    go_wp2
    go_ret
    exact ⟨retS Hr.out.symm, b1⟩
end Go.Proofs.YtningnjdafhgkaaDoor

/- Contracts of the functions that draw from a code: what they return lies in its range, whatever the code. -/
import Derived.Test.YtliejhmlcdjpcaaC4
import Derived.Deep.RegionHeld3
import Derived.Laws.BitsLemmas
namespace Go.Proofs.Ytliejhmlcdjpcaa
open Go.RowKit

theorem i64_mask (m : Nat) (hm : m ≤ 62) (c : Int) (hc : c = ((2 ^ m - 1 : Nat) : Int)) (n : Int) : bits .and .i64 n c = n % ((2 ^ m : Nat) : Int) := by
  have hpow : 2 ^ m ∣ 2 ^ 64 := Nat.pow_dvd_pow 2 (by omega)
  have hlt : 2 ^ m ≤ 2 ^ 62 := Nat.pow_le_pow_right (by decide) hm
  have hpos : 0 < 2 ^ m := Nat.two_pow_pos m
  have hc' : (BitVec.ofInt 64 c).toNat = 2 ^ m - 1 := by
    rw [hc, BitVec.toNat_ofInt]
    have : 2 ^ m - 1 < 2 ^ 64 := by omega
    rw [← Int.natCast_emod, Nat.mod_eq_of_lt this]; rfl
  have key : (BitVec.ofInt 64 n &&& BitVec.ofInt 64 c).toNat = (n % ((2 ^ 64 : Nat) : Int)).toNat % 2 ^ m := by
    rw [BitVec.toNat_and, BitVec.toNat_ofInt, hc', Nat.and_two_pow_sub_one_eq_mod]
  show IntKind.i64.wrap ((BitVec.ofInt 64 n &&& BitVec.ofInt 64 c).toNat : Nat) = n % _
  rw [key, IntKind.wrap_i64]
  have h1 : ((n % ((2 ^ 64 : Nat) : Int)).toNat % 2 ^ m : Nat) < 2 ^ m := Nat.mod_lt _ hpos
  have h2 : (((n % ((2 ^ 64 : Nat) : Int)).toNat % 2 ^ m : Nat) : Int) = n % ((2 ^ m : Nat) : Int) := by
    rw [Int.natCast_emod, Int.toNat_of_nonneg (Int.emod_nonneg _ (by decide))]
    exact Int.emod_emod_of_dvd n (Int.natCast_dvd_natCast.2 hpow)
  rw [h2]
  have h3 : 0 ≤ n % ((2 ^ m : Nat) : Int) := Int.emod_nonneg _ (by omega)
  have h4 : n % ((2 ^ m : Nat) : Int) < ((2 ^ m : Nat) : Int) := Int.emod_lt_of_pos _ (by omega)
  omega
theorem i64_and255 (n : Int) : bits .and .i64 n 255 = n % 256 := i64_mask 8 (by decide) 255 (by decide) n
theorem i64_and30 (n : Int) : bits .and .i64 n 1073741823 = n % 1073741824 := i64_mask 30 (by decide) 1073741823 (by decide) n
theorem i64_and1 (n : Int) : bits .and .i64 n 1 = n % 2 := i64_mask 1 (by decide) 1 (by decide) n

def ByteV : RepT Int := fun _ _ u n => u = .int .u8 n ∧ 0 ≤ n ∧ n ≤ 255
theorem rByteV : Rep ByteV := ⟨fun _ h => h, fun _ h => h, fun h => h, fun h => by obtain ⟨rfl, _⟩ := h; rfl⟩
abbrev Bytes := Rd (Sl ByteV)

/-- a cursor over bytes that lie below block B -/
def Cur (B : Nat) (w : World) (g : Nat) : Prop :=
  B ≤ g ∧ ∃ (v : Value) (bs : List Int) (i : Nat) (h : Int), w.heap[g]? = some (.cells #[v, .int .i64 i, .int .i64 h] 78 (0, 0)) ∧ Sl ByteV (fun b => b < B) w v bs ∧ i ≤ bs.length

theorem Cur.keep {B g : Nat} {w w' : World} (h : Cur B w g) (hb : Below w.heap.size w w') : Cur B w' g := by
  obtain ⟨h1, v, bs, i, x, h2, h3, h4⟩ := h
  have hg := lt_of_block h2
  exact ⟨h1, v, bs, i, x, (hb.block g hg).trans h2, (rSl rByteV).same (sameOn_below hb fun b hb' => by omega) h3, h4⟩
theorem Cur.only {B g : Nat} {S : Bk} {w w' : World} (h : Cur B w g) (hb : Only S w w') (hg : ¬ S g) (hS : ∀ b, S b → B ≤ b) : Cur B w' g := by
  obtain ⟨h1, v, bs, i, x, h2, h3, h4⟩ := h
  have hgs := lt_of_block h2
  exact ⟨h1, v, bs, i, x, (hb.block g hgs hg).trans h2, (rSl rByteV).same (fun b hb' => hb.block b (by omega) (fun hs => by have := hS b hs; omega)) h3, h4⟩
theorem Cur.lt {B g : Nat} {w : World} (h : Cur B w g) : g < w.heap.size := by
  obtain ⟨h1, v, bs, i, x, h2, h3, h4⟩ := h
  exact lt_of_block h2
theorem setCell_block {w : World} {g j : Nat} {cs : Array Value} {t : TypeId} {u : Value} (h : w.heap[g]? = some (.cells cs t (0, 0))) : (w.setCell ⟨g, j, none⟩ u).heap[g]? = some (.cells (cs.setIfInBounds j u) t (0, 0)) := heap_setCell_same w g j cs t u h

/-- the call returned a number of a range and moved the cursor on -/
def Drew (B g : Nat) (w : World) (P : Int → Prop) (e : Ending) (w' : World) : Prop := ∃ n : Int, P n ∧ e = .returned (.int .i64 n) ∧ Cur B w' g ∧ Only (fun b => b = g) w w' ∧ w.heap.size = w'.heap.size

theorem and255_bd (n : Int) : 0 ≤ bits .and .i64 n 255 ∧ bits .and .i64 n 255 ≤ 255 := by rw [i64_and255]; omega
theorem cur_step1 {B g i : Nat} {w : World} {v : Value} {bs : List Int} {x : Int} (hB : B ≤ g) (h : w.heap[g]? = some (.cells #[v, .int .i64 i, .int .i64 x] 78 (0, 0))) (hbs : Sl ByteV (fun b => b < B) w v bs) (hi : i ≤ bs.length) (x' : Int) (n : Nat) :
    Cur B ((w.setCell ⟨g, 2, none⟩ (.int .i64 x')).drewN n) g ∧ Only (fun b => b = g) w ((w.setCell ⟨g, 2, none⟩ (.int .i64 x')).drewN n) ∧ w.heap.size = ((w.setCell ⟨g, 2, none⟩ (.int .i64 x')).drewN n).heap.size := by
  refine ⟨⟨hB, v, bs, i, x', setCell_block (w := w) h, (rSl rByteV).same (fun b hb => ?_) hbs, hi⟩, ?_, (size_setCell _ _ _).symm⟩
  · exact Below.heap_setCell w _ _ b (by simp; omega)
  · exact ((Only.refl (fun b => b = g) w).setCell (p := ⟨g, 2, none⟩) (.inl rfl) _).drewN n
theorem cur_step2 {B g i : Nat} {w : World} {v : Value} {bs : List Int} {x : Int} (hB : B ≤ g) (h : w.heap[g]? = some (.cells #[v, .int .i64 i, .int .i64 x] 78 (0, 0))) (hbs : Sl ByteV (fun b => b < B) w v bs) (hi : i < bs.length) (x' : Int) (n : Nat) :
    Cur B (((w.setCell ⟨g, 2, none⟩ (.int .i64 x')).drewN n).setCell ⟨g, 1, none⟩ (.int .i64 (i + 1))) g ∧ Only (fun b => b = g) w (((w.setCell ⟨g, 2, none⟩ (.int .i64 x')).drewN n).setCell ⟨g, 1, none⟩ (.int .i64 (i + 1))) ∧
      w.heap.size = (((w.setCell ⟨g, 2, none⟩ (.int .i64 x')).drewN n).setCell ⟨g, 1, none⟩ (.int .i64 (i + 1))).heap.size := by
  have h1 := setCell_block (j := 2) (u := .int .i64 x') h
  have h2 := setCell_block (w := (w.setCell ⟨g, 2, none⟩ (.int .i64 x')).drewN n) (j := 1) (u := .int .i64 (i + 1)) h1
  refine ⟨⟨hB, v, bs, i + 1, x', h2, (rSl rByteV).same (fun b hb => ?_) hbs, hi⟩, ?_, by rw [size_setCell]; exact (size_setCell _ _ _).symm⟩
  · rw [Below.heap_setCell _ _ _ b (by simp; omega)]
    exact Below.heap_setCell w _ _ b (by simp; omega)
  · exact (((Only.refl (fun b => b = g) w).setCell (p := ⟨g, 2, none⟩) (.inl rfl) _).drewN n).setCell (p := ⟨g, 1, none⟩) (.inl rfl) _

set_option maxHeartbeats 800000 in
theorem l01Byte_c (B g : Nat) (w : World) (h : Cur B w g) : Calls Try.prog 60 #[.pointer (some ⟨g, 0, none⟩)] w (Drew B g w fun n => 0 ≤ n ∧ n ≤ 255) := by
  obtain ⟨hB, v, bs, i, x, hblk, hbs, hi⟩ := h
  obtain ⟨a, cap, rfl, hcap, hmax, -, hc⟩ := id hbs
  have hcell : ∀ j, w.cell? ⟨g, j, none⟩ = #[Value.slice a bs.length cap, .int .i64 i, .int .i64 x][j]? := fun j => cell_of_row w g j _ _ _ hblk
  have hfree : ∀ j, w.frozen? ⟨g, j, none⟩ = false := fun j => frozen_of_row w g j _ _ hblk
  have c0 : w.cell? ⟨g, 0, none⟩ = some (.slice a bs.length cap) := hcell 0
  have c1 : w.cell? ⟨g, 1, none⟩ = some (.int .i64 i) := hcell 1
  have c2 : w.cell? ⟨g, 2, none⟩ = some (.int .i64 x) := hcell 2
  have f1 := hfree 1
  have f2 := hfree 2
  clear hcell hfree
  have Hblk := Lib.hid hblk
  have Hbs := Lib.hid hbs
  clear hblk hbs
  by_cases hlt : i < bs.length
  · obtain ⟨b, off, rfl, hbB, hc'⟩ := hc (by omega)
    obtain ⟨y, hy⟩ : ∃ y, bs[i]? = some y := ⟨_, List.getElem?_eq_getElem hlt⟩
    obtain ⟨u, hck, rfl, hy1, hy2⟩ := hc' i y hy
    have hbg : b < g := by omega
    clear hc hc' hy
    go_enter Try.func60, Try.ntmps60
    go_wp2
    go_quiet (fail)
    go_wp2
    go_quiet (fail)
    go_wp2
    go_quiet (fail)
    go_wp2
    go_ret
    exact ⟨_, and255_bd _, rfl, cur_step2 hB Hblk.out Hbs.out hlt _ _⟩
  · clear hc
    go_enter Try.func60, Try.ntmps60
    go_wp2
    go_quiet (fail)
    go_wp2
    go_quiet (fail)
    go_wp2
    go_ret
    exact ⟨_, and255_bd _, rfl, by rw [World.drewN_drewN]; exact cur_step1 hB Hblk.out Hbs.out hi _ _⟩

/-- below a bound from 1 to 256 -/
theorem l01Below_c (B g : Nat) (n : Int) (w : World) (h : Cur B w g) (h1 : 1 ≤ n) (h2 : n ≤ 256) : Calls Try.prog 47 #[.pointer (some ⟨g, 0, none⟩), .int .i64 n] w (Drew B g w fun m => 0 ≤ m ∧ m < n) := by
  go_enter Try.func47, Try.ntmps47
  go_wp2_with (fail)
  refine (l01Byte_c B g _ h).mono ?_
  rintro e w' ⟨m, ⟨hm0, hm1⟩, rfl, hc, ho, hz⟩
  have Hz := Lib.hid hz; clear hz
  have e1 : 0 ≤ m % n := Int.emod_nonneg _ (by omega)
  have e2 : m % n < n := Int.emod_lt_of_pos _ (by omega)
  have hn0 : (n == 0) = false := by simp; omega
  go_wp2
  go_ret
  exact ⟨_, ⟨e1, e2⟩, rfl, hc, ho, Hz.out⟩

theorem cur_new {w : World} {v : Value} {bs : List Int} (h : Bytes w v bs) (x : Int) : Cur w.heap.size (w.alloc (.cells #[v, .int .i64 0, .int .i64 x] 78)) w.heap.size :=
  ⟨Nat.le_refl _, v, bs, 0, x, heap_alloc_new w _, (rSl rByteV).same (fun b hb => Below.heap_alloc w _ b hb) h, Nat.zero_le _⟩
set_option maxRecDepth 100000 in
theorem l01New_c (v : Value) (bs : List Int) (w : World) (hv : Bytes w v bs) : Calls Try.prog 45 #[v] w fun e w' => ∃ g, e = .returned (.pointer (some ⟨g, 0, none⟩)) ∧ g = w.heap.size ∧ Cur w.heap.size w' g ∧ Below w.heap.size w w' ∧ w'.heap.size = w.heap.size + 1 := by
  obtain ⟨a, cap, rfl, hcap, hle, -, hc⟩ := id hv
  have Hv := Lib.hid hv; clear hv
  go_enter Try.func45, Try.ntmps45
  go_wp2
  go_loop [3, 4] (fun h i => ∃ (k : Nat) (x : Int), k ≤ bs.length ∧ i = .int .i64 k ∧ h = .int .i64 x) (fun _ i => bs.length - (intOf i).toNat)
  case atStart => exact ⟨0, _, Nat.zero_le _, rfl, rfl⟩
  case round =>
    obtain ⟨k, x, hk, rfl, rfl⟩ := hrel
    by_cases hlt : k < bs.length
    · by_cases hlt2 : k < 4000
      · obtain ⟨b, off, rfl, hb, hc'⟩ := hc (by omega)
        obtain ⟨y, hy⟩ : ∃ y, bs[k]? = some y := ⟨_, List.getElem?_eq_getElem hlt⟩
        obtain ⟨u, hck, rfl, hy1, hy2⟩ := hc' k y hy
        clear hc hc' hy
        go_wp2
        go_round
        case rel => exact ⟨k + 1, _, by omega, by go_num, rfl⟩
        case measure => simp [intOf]; omega
      · go_wp2
        go_ret
        exact ⟨_, rfl, rfl, cur_new Hv.out _, Below.pureAlloc _ _, by simp⟩
    · go_wp2
      go_ret
      exact ⟨_, rfl, rfl, cur_new Hv.out _, Below.pureAlloc _ _, by simp⟩

theorem l18New_c (v : Value) (bs : List Int) (n : Nat) (w : World) (hv : Bytes w v bs) (hn : n ≤ 1048576) : Calls Try.prog 30 #[v, .int .i64 n] w fun e w' => ∃ g, e = .returned (.pointer (some ⟨g, 0, none⟩)) ∧ g = w.heap.size ∧ Cur w.heap.size w' g ∧ Below w.heap.size w w' ∧ w'.heap.size = w.heap.size + 1 := by
  go_enter Try.func30, Try.ntmps30
  go_wp2_with (fail)
  refine (l01New_c v bs _ hv).mono ?_
  rintro e w1 ⟨g, rfl, rfl, hcur, hbel, hsz⟩
  have Hsz := Lib.hid hsz; clear hsz
  go_wp2_with (fail)
  go_loopw [6] (fun i wr => ∃ k : Nat, k ≤ n ∧ i = .int .i64 k ∧ Cur w.heap.size wr w.heap.size ∧ Below w.heap.size w wr ∧ wr.heap.size = w.heap.size + 1) (fun i _ => n - (intOf i).toNat)
  case atStart => exact ⟨0, Nat.zero_le _, rfl, hcur, hbel, Hsz.out⟩
  case round =>
    clear hcur hbel Hsz
    obtain ⟨k, hk, rfl, hcur, hbel, hsz⟩ := hrel
    have Hsz := Lib.hid hsz; clear hsz
    by_cases hlt : k < n
    · go_wp2_with (fail)
      refine (l01Byte_c _ _ _ hcur).mono ?_
      rintro e w2 ⟨m, -, rfl, hcur2, ho, hz⟩
      have Hz := Lib.hid hz; clear hz
      have hbel2 := hbel.trans (ho.below (by have := Hsz.out; omega) (fun b hb => by omega))
      go_wp2
      go_roundw
      case rel => exact ⟨k + 1, by omega, by go_num, hcur2, hbel2, by rw [← Hz.out, Hsz.out]⟩
      case measure => simp [intOf]; omega
    · go_wp2
      go_ret
      exact ⟨_, rfl, rfl, hcur, hbel, Hsz.out⟩

/-- the grid of zeros -/
def zeros (r c : Nat) : List (List Int) := List.replicate r (List.replicate c 0)
set_option maxHeartbeats 400000 in
theorem l02Empty_c (r c : Nat) (w : World) (hr : r ≤ 1048576) (hc : c ≤ 1048576) : Calls Try.prog 59 #[.int .i64 r, .int .i64 c] w (New 25 (Own 3 IntV) w (zeros r c)) := by
  go_enter Try.func59, Try.ntmps59
  go_wp2
  go_loopw [5, 6] (fun v i wr => ∃ k : Nat, k ≤ r ∧ i = .int .i64 k ∧ Own 25 (Own 3 IntV) (Iv w.heap.size wr.heap.size) wr v (zeros k c) ∧ Below w.heap.size w wr) (fun _ i _ => r - (intOf i).toNat)
  case atStart => exact ⟨0, Nat.zero_le _, rfl, own_lit0 _ _ _ (rOwn rIntV), Below.pureAlloc _ _⟩
  case round =>
    obtain ⟨k, hk, rfl, hown, hbel⟩ := hrel
    have hBs := hbel.size
    have Hown := Lib.hid hown; clear hown
    by_cases hlt : k < r
    · have hkl : (zeros k c).length < 1099511627776 := by simp [zeros]; omega
      go_wp2_with (first | (at_make; refine wpList_mk _ rfl _ _ 25 rfl 3 Try.underlying25 infoInt rfl (by decide) (R := IntV) 0 ⟨rfl, I64.small (by decide) (by decide)⟩ rIntV c rfl rfl (by omega) ?_; intro w1 hown1 hbel1 hsz1; have Hsz1 := Lib.hid hsz1; clear hsz1) | (at_builtin; (refine wpList_appR rfl _ _ 23 rfl (rOwn rIntV) 25 Try.underlying23 infoInts rfl (by decide) w.heap.size wr.heap.size hBs hbel1.size rfl rfl (by exact Own.keep (rOwn rIntV) Hown.out hbel1 (Nat.le_refl _)) (by exact hown1.point rIntV (Nat.le_refl _) (by rw [Hsz1.out]; omega)) hkl ?_); intro v2 w2 hown2 hbel2 _) | fail)
      have hb2 := (hbel.trans (hbel1.mono hBs)).trans hbel2
      have Hown2 := Lib.hid hown2; clear hown2
      go_wp2
      go_roundw
      case rel => exact ⟨k + 1, by omega, by go_num, by simpa [zeros, List.replicate_succ'] using Hown2.out, hb2⟩
      case measure => simp [intOf]; omega
    · go_wp2
      go_ret
      obtain rfl : k = r := by omega
      exact ⟨_, rfl, Hown.out, hbel⟩
end Go.Proofs.Ytliejhmlcdjpcaa

/- Contracts: ImageLine of the program. Contracts: FreeCells and ImageLine of the reference. Contracts: FreeCells and ImageLine of the reference; ImageLine of both at every grid. -/
import Derived.Test.YtekgnpdchpdfiaaDoorSw4
import Derived.Test.YtekgnpdchpdfiaaDoorF4
import Derived.Test.YtekgnpdchpdfiaaDoorT3
import Derived.Test.YtekgnpdchpdfiaaDoorKeyL
import Derived.Test.YtekgnpdchpdfiaaDoorMem
namespace Go.Proofs.YtekgnpdchpdfiaaDoor
open Go.RowKit

theorem rowSums_64 {r c : Nat} {m : List (List Int)} (h : Shape r c m) (h1 : 1 ≤ r) (h2 : r ≤ 5) (h3 : 1 ≤ c) (h4 : c ≤ 5) : Ints64 (rowSumsOf m) ∧ Ints64 (colSumsOf m) :=
  ⟨fun x hx => by have := (rowSumsOf_wf h h1 h2 h3 h4).2 x hx; exact I64.small (by omega) (by omega), fun x hx => by have := (colSumsOf_wf h h1 h2 h3 h4).2 x hx; exact I64.small (by omega) (by omega)⟩
def imageLineOf (r c : Nat) (m : List (List Int)) : ByteArray :=
  if switchesOf r c m = [] then formatImage m ++ ⟨#[32, 114, 111, 119, 115, 32]⟩ ++ sumsText (rowSumsOf m) ++ ⟨#[32, 99, 111, 108, 115, 32]⟩ ++ sumsText (colSumsOf m) ++ ⟨#[32, 117, 110, 105, 113, 117, 101]⟩
  else formatImage m ++ ⟨#[32, 114, 111, 119, 115, 32]⟩ ++ sumsText (rowSumsOf m) ++ ⟨#[32, 99, 111, 108, 115, 32]⟩ ++ sumsText (colSumsOf m) ++ ⟨#[32, 102, 114, 101, 101, 32]⟩ ++ fmtInt (negs (fixedOf (rowSumsOf m) (colSumsOf m)))
theorem formatImage_size {r c : Nat} {m : List (List Int)} (h : Shape r c m) (h1 : 1 ≤ r) (h2 : r ≤ 5) (h3 : 1 ≤ c) (h4 : c ≤ 5) : (formatImage m).size ≤ 1000 := by
  unfold formatImage
  rw [if_pos (h.ok h1 h2 h3 h4)]
  have h5 := (imageOk_trits (h.ok h1 h2 h3 h4)).bulk
  have h6 : (signsOf m).size ≤ bulkB ⟨#[47]⟩ (m.map signRow) := joinB_size _ _
  omega
structure LineSz (A B C D : ByteArray) : Prop where
  a : A.size ≤ 1000
  b : B.size ≤ 1000
  c : C.size ≤ 1000
  d : D.size ≤ 20
  l1 : (A ++ ⟨#[32, 114, 111, 119, 115, 32]⟩ : ByteArray).size ≤ 2000
  l2 : (A ++ ⟨#[32, 114, 111, 119, 115, 32]⟩ ++ B : ByteArray).size ≤ 3000
  l3 : (A ++ ⟨#[32, 114, 111, 119, 115, 32]⟩ ++ B ++ ⟨#[32, 99, 111, 108, 115, 32]⟩ : ByteArray).size ≤ 4000
  l4 : (A ++ ⟨#[32, 114, 111, 119, 115, 32]⟩ ++ B ++ ⟨#[32, 99, 111, 108, 115, 32]⟩ ++ C : ByteArray).size ≤ 5000
  l5 : (A ++ ⟨#[32, 114, 111, 119, 115, 32]⟩ ++ B ++ ⟨#[32, 99, 111, 108, 115, 32]⟩ ++ C ++ ⟨#[32, 102, 114, 101, 101, 32]⟩ : ByteArray).size ≤ 6000
theorem lineSz {A B C D : ByteArray} (a : A.size ≤ 1000) (b : B.size ≤ 1000) (c : C.size ≤ 1000) (d : D.size ≤ 20) : LineSz A B C D := by
  have e1 : (⟨#[32, 114, 111, 119, 115, 32]⟩ : ByteArray).size = 6 := rfl
  have e2 : (⟨#[32, 99, 111, 108, 115, 32]⟩ : ByteArray).size = 6 := rfl
  have e3 : (⟨#[32, 102, 114, 101, 101, 32]⟩ : ByteArray).size = 6 := rfl
  refine ⟨a, b, c, d, ?_, ?_, ?_, ?_, ?_⟩ <;> simp only [ba_append_size, e1, e2, e3] <;> omega
theorem negs_bd {r c : Nat} {m F : List (List Int)} (h : FixOk r c m F) (hr : r ≤ 5) (hc : c ≤ 5) : negs F ≤ 25 := by
  have key : ∀ k, k ≤ r → negs (F.take k) ≤ 5 * k := by
    intro k
    induction k with
    | zero => intro _; simp [negs]
    | succ k ih =>
      intro hk
      obtain ⟨l, hl, hll, -⟩ := h.row k (by omega)
      rw [negs_take hl]
      have := ih (by omega)
      have := negRow_le l
      omega
  have := key r (Nat.le_refl _)
  rw [List.take_of_length_le (by rw [h.len]; exact Nat.le_refl _)] at this
  omega
theorem imageLine_sz {r c : Nat} {m : List (List Int)} (h : Shape r c m) (h1 : 1 ≤ r) (h2 : r ≤ 5) (h3 : 1 ≤ c) (h4 : c ≤ 5) : LineSz (formatImage m) (sumsText (rowSumsOf m)) (sumsText (colSumsOf m)) (fmtInt (negs (fixedOf (rowSumsOf m) (colSumsOf m)))) := by
  obtain ⟨i1, i2⟩ := rowSums_64 h h1 h2 h3 h4
  have l1 := (rowSumsOf_wf h h1 h2 h3 h4).1
  have l2 := (colSumsOf_wf h h1 h2 h3 h4).1
  have s1 := sumsText_size i1
  have s2 := sumsText_size i2
  have n1 := negs_bd (fix_ok h h1 h2 h3 h4) h2 h4
  exact lineSz (formatImage_size h h1 h2 h3 h4) (by omega) (by omega) (fmt_size (by omega))

set_option maxRecDepth 100000 in
set_option maxHeartbeats 1000000 in
theorem ImageLine_i (v : Value) (m : List (List Int)) (r c : Nat) (w : World) (hv : Grid w v m) (hs : Shape r c m) (hr1 : 1 ≤ r) (hr5 : r ≤ 5) (hc1 : 1 ≤ c) (hc5 : c ≤ 5) (ht : Tab w) : Calls Tryd.prog 21 #[v] w fun e w' => e = .returned (.string (imageLineOf r c m)) ∧ Below w.heap.size w w' := by
  have Hv := Lib.hid hv
  have Hok := Lib.hid (hs.ok hr1 hr5 hc1 hc5)
  have hsz := imageLine_sz hs hr1 hr5 hc1 hc5
  have hneg := negs_bd (fix_ok hs hr1 hr5 hc1 hc5) hr5 hc5
  have hl1 := (rowSumsOf_wf hs hr1 hr5 hc1 hc5).1
  have hl2 := (colSumsOf_wf hs hr1 hr5 hc1 hc5).1
  obtain ⟨A, hA⟩ : ∃ A, A = formatImage m := ⟨_, rfl⟩
  obtain ⟨B, hB⟩ : ∃ B, B = sumsText (rowSumsOf m) := ⟨_, rfl⟩
  obtain ⟨C, hC⟩ : ∃ C, C = sumsText (colSumsOf m) := ⟨_, rfl⟩
  obtain ⟨N, hN⟩ : ∃ N, N = negs (fixedOf (rowSumsOf m) (colSumsOf m)) := ⟨_, rfl⟩
  rw [← hN] at hneg
  rw [← hA, ← hB, ← hC, ← hN] at hsz
  have HA := Lib.hid hA
  have HB := Lib.hid hB
  have HC := Lib.hid hC
  have HN := Lib.hid hN
  have HT := Lib.hid ht
  obtain ⟨za, zb, zc, zd, z1, z2, z3, z4, z5⟩ := hsz
  clear hA hB hC hN ht
  obtain ⟨a, cap, rfl, -⟩ := hv
  go_enter Tryd.func21, Tryd.ntmps21
  go_wp2_with (fail)
  refine (ImageOk_i _ _ _ Hv.out).mono ?_
  rintro e w' ⟨rfl, rfl⟩
  rw [Hok.out]
  go_wp2_with (fail)
  refine (FormatImage_i _ _ _ Hv.out).mono ?_
  rintro e w1 ⟨rfl, b1⟩
  rw [← HA.out]
  go_wp2_with (fail)
  refine (RowSums_i _ _ _ (Hv.out.keep b1)).mono ?_
  rintro e w2 ⟨v2, rfl, o2, b2⟩
  have bb2 := b1.trans_pure b2 (Nat.le_refl _)
  go_wp2_with (fail)
  refine (FormatSums_i _ _ _ o2.ints (by omega) (HT.out.keep bb2)).mono ?_
  rintro e w3 ⟨rfl, b3⟩
  rw [← HB.out]
  have bb3 := bb2.trans_pure b3 (Nat.le_refl _)
  clear o2
  go_wp2_with (fail)
  refine (ColSums_i _ _ _ (Hv.out.keep bb3)).mono ?_
  rintro e w4 ⟨v4, rfl, o4, b4⟩
  have bb4 := bb3.trans_pure b4 (Nat.le_refl _)
  go_wp2_with (fail)
  refine (FormatSums_i _ _ _ o4.ints (by omega) (HT.out.keep bb4)).mono ?_
  rintro e w5 ⟨rfl, b5⟩
  rw [← HC.out]
  have bb5 := bb4.trans_pure b5 (Nat.le_refl _)
  clear o4
  go_wp2_with (fail)
  refine (IsUnique_i _ m r c _ (Hv.out.keep bb5) hs hr1 hr5 hc1 hc5).mono ?_
  rintro e w6 ⟨rfl, b6⟩
  have bb6 := bb5.trans_pure b6 (Nat.le_refl _)
  by_cases hu : switchesOf r c m = []
  · rw [decide_eq_true hu]
    have Hr := Lib.hid (show A ++ ⟨#[32, 114, 111, 119, 115, 32]⟩ ++ B ++ ⟨#[32, 99, 111, 108, 115, 32]⟩ ++ C ++ ⟨#[32, 117, 110, 105, 113, 117, 101]⟩ = imageLineOf r c m from by unfold imageLineOf; rw [if_pos hu, HA.out, HB.out, HC.out])
    clear hu
    go_wp2
    go_ret
    exact ⟨retS Hr.out, bb6⟩
  · rw [decide_eq_false hu]
    have Hr := Lib.hid (show A ++ ⟨#[32, 114, 111, 119, 115, 32]⟩ ++ B ++ ⟨#[32, 99, 111, 108, 115, 32]⟩ ++ C ++ ⟨#[32, 102, 114, 101, 101, 32]⟩ ++ fmtInt N = imageLineOf r c m from by unfold imageLineOf; rw [if_neg hu, HA.out, HB.out, HC.out, HN.out])
    clear hu
    go_wp2_with (fail)
    refine (FreeCells_i _ m r c _ (Hv.out.keep bb6) hs hr1 hr5 hc1 hc5).mono ?_
    rintro e w7 ⟨rfl, b7⟩
    rw [← HN.out]
    have bb7 := bb6.trans_pure b7 (Nat.le_refl _)
    go_wp2_with (fail)
    refine (FormatInt_i _ (I64.small (by omega) (by omega)) _ (HT.out.keep bb7)).mono ?_
    rintro e w8 ⟨rfl, b8⟩
    have bb8 := bb7.trans_pure b8 (Nat.le_refl _)
    go_wp2
    go_ret
    exact ⟨retS Hr.out, bb8⟩
end Go.Proofs.YtekgnpdchpdfiaaDoor

namespace Go.Proofs.YtekgnpdchpdfiaaDoor
open Go.RowKit

theorem fixedOf_at {r c : Nat} {m : List (List Int)} (hs : Shape r c m) (hr1 : 1 ≤ r) (hr5 : r ≤ 5) (hc1 : 1 ≤ c) (hc5 : c ≤ 5) {y : Nat} (hy : y < r) : ∃ l, (fixedOf (rowSumsOf m) (colSumsOf m))[y]? = some l ∧ l.length = c ∧ ∀ x, x < c → ∃ f, l[x]? = some f ∧ (f < 0 ↔ Reach r c m (fromOf r m y x) (toOf r m y x)) := by
  have hS := sums_of_image hs hr1 hr5 hc1 hc5
  have hrl := (rowSumsOf_wf hs hr1 hr5 hc1 hc5).1
  have hcl := (colSumsOf_wf hs hr1 hr5 hc1 hc5).1
  have hok : sumsOk (rowSumsOf m) (colSumsOf m) = true := sumsOk_of (by omega) (by omega) (by omega) (by omega) (by rw [hrl, hcl]; exact hS)
  have hex : existsB (rowSumsOf m) (colSumsOf m) = true := (existsB_iff hok).2 ⟨m, by rw [hrl, hcl]; exact hS⟩
  have hmem : ∀ g, g ∈ imgsOf (rowSumsOf m) (colSumsOf m) ↔ Sums (rowSumsOf m) (colSumsOf m) r c g := fun g => by
    rw [imgsOf_ok hok, allImgs_mem hok, hrl, hcl]
  have hm := (hmem m).2 hS
  obtain ⟨L, hL⟩ : ∃ L, L = imgsOf (rowSumsOf m) (colSumsOf m) := ⟨_, rfl⟩
  rw [← hL] at hm hmem
  have hh : L.headD [] ∈ L := by
    cases L with
    | nil => cases hm
    | cons a l => simp
  have hF : fixedOf (rowSumsOf m) (colSumsOf m) = imgFn r c fun i j => if ∀ g ∈ L, at2 g i j = at2 m i j then at2 m i j else -1 := by
    unfold fixedOf
    rw [if_pos hex, hrl, hcl, ← hL]
    unfold fixG
    refine imgFn_congr fun i j _ _ => ?_
    by_cases h : ∀ g ∈ L, at2 g i j = at2 (L.headD []) i j
    · rw [if_pos h, if_pos fun g hg => (h g hg).trans (h m hm).symm, h m hm]
    · rw [if_neg h, if_neg fun h' => h fun g hg => (h' g hg).trans (h' _ hh).symm]
  rw [hF]
  refine ⟨_, imgFn_row (c := c) (fun i j => if ∀ g ∈ L, at2 g i j = at2 m i j then at2 m i j else -1) hy, by simp, fun x hx => ⟨if ∀ g ∈ L, at2 g y x = at2 m y x then at2 m y x else -1, ?_, ?_⟩⟩
  · rw [List.getElem?_map, List.getElem?_range hx]; rfl
  · rw [← free_reach hs hr1 hr5 hc1 hc5 hy hx]
    have hb := at2_bits hs y x
    constructor
    · intro hlt
      apply Classical.byContradiction
      intro hn
      rw [if_pos fun g hg => Classical.byContradiction fun hne => hn ⟨g, (hmem g).1 hg, hne⟩] at hlt
      omega
    · rintro ⟨g, hg, hne⟩
      rw [if_neg fun h => hne (h g ((hmem g).2 hg))]
      omega

theorem IsUnique_s (v : Value) (m : List (List Int)) (r c : Nat) (w : World) (hv : Grid w v m) (hs : Shape r c m) (hr1 : 1 ≤ r) (hr5 : r ≤ 5) (hc1 : 1 ≤ c) (hc5 : c ≤ 5) : Calls Tryd.prog 81 #[v] w fun e w' => e = .returned (.bool (decide (switchesOf r c m = []))) ∧ Below w.heap.size w w' := by
  have Hv := Lib.hid hv
  have Hok := Lib.hid (hs.ok hr1 hr5 hc1 hc5)
  obtain ⟨a, cap, rfl, -⟩ := hv
  go_enter Tryd.func81, Tryd.ntmps81
  go_wp2_with (fail)
  refine (ImageOk_s _ _ _ Hv.out).mono ?_
  rintro e w' ⟨rfl, rfl⟩
  rw [Hok.out]
  go_wp2_with (fail)
  refine (SwitchesOf_s _ m r c _ Hv.out hs hr1 hr5 hc1 hc5).mono ?_
  rintro e w1 ⟨v1, rfl, o1, b1⟩
  obtain ⟨a1, c1, rfl⟩ := o1.shape
  obtain ⟨l, hl⟩ : ∃ l, l = switchesOf r c m := ⟨_, rfl⟩
  rw [← hl]
  clear o1
  cases l with
  | nil =>
    have He := Lib.hid (show true = decide (switchesOf r c m = []) from by rw [← hl]; rfl)
    clear hl
    go_wp2
    go_ret
    exact ⟨retB He.out, b1⟩
  | cons s l =>
    have hd : (((s :: l).length : Int) == 0) = false := by rw [beq_eq_false_iff_ne, List.length_cons]; omega
    obtain ⟨n, hn⟩ : ∃ n, n = (s :: l).length := ⟨_, rfl⟩
    rw [← hn] at hd ⊢
    have He := Lib.hid (show false = decide (switchesOf r c m = []) from by rw [← hl]; simp)
    clear hn hl
    go_wp2
    go_ret
    exact ⟨retB He.out, b1⟩

theorem infoBool : (Tryd.prog.info? 4).map (fun i => (i.zero, i.size, i.bytes)) = some (some (.bool false), 1, 1) := by kernel_rfl
theorem Own.bools_cell {E : TypeId} {S : Bk} {w : World} {g n cap : Nat} {xs : List Bool} (h : Own E BoolV S w (.slice (some ⟨g, 0, none⟩) n cap) xs) {k : Nat} {x : Bool} (hk : xs[k]? = some x) : w.cell? ⟨g, k, none⟩ = some (.bool x) ∧ w.frozen? ⟨g, k, none⟩ = false := by
  obtain ⟨_, _, _, hf, T, u, hu, rfl, _⟩ := h.focus rBoolV hk
  exact ⟨hu, hf⟩
theorem Own.setBool {E : TypeId} {S : Bk} {w : World} {g n cap : Nat} {xs : List Bool} (h : Own E BoolV S w (.slice (some ⟨g, 0, none⟩) n cap) xs) {k : Nat} (hk : k < xs.length) (c : Bool) : Own E BoolV S (w.setCell ⟨g, k, none⟩ (.bool c)) (.slice (some ⟨g, 0, none⟩) n cap) (xs.set k c) := by
  obtain ⟨_, _, _, _, T, u, _, _, _, h1, _⟩ := h.focus rBoolV (List.getElem?_eq_getElem hk)
  exact h1 (.bool c) c (fun _ => False) S rfl (fun _ x => x.elim) (fun _ x => x.elim) (fun _ x => x)
structure RSt (n : Nat) (w wr : World) (qv : Value) (r c : Nat) (g : List (List Int)) (a : Nat) (q : List Nat) (k w0 : Nat) : Prop where
  so : Own 4 BoolV (fun b => b = n) wr (.slice (some ⟨n, 0, none⟩) (r + c) (r + c)) (seenOf (r + c) q)
  qo : Own 3 IntV (Iv (n + 1) wr.heap.size) wr qv (intsN q)
  inv : QInv r c g a q k w0
  bel : Below n w wr
  lt : n < wr.heap.size
theorem RSt.add {n r c a k x u : Nat} {w wr w2 : World} {qv v2 : Value} {g : List (List Int)} {q : List Nat} (h : RSt n w wr qv r c g a q k x) (hu : q[k]? = some u) (hx : x < r + c) (he : Edge r g u x) (hn : x ∉ q) {o : Obj} (ho : Own 3 IntV (fun b => (Iv (n + 1) wr.heap.size b ∨ False ∨ ((wr.setCell ⟨n, x, none⟩ (.bool true)).alloc o).heap.size ≤ b) ∧ b < w2.heap.size) w2 v2 (intsN q ++ [(x : Int)])) (hb : Only (fun b => qv.ownBlock = some b) ((wr.setCell ⟨n, x, none⟩ (.bool true)).alloc o) w2) : RSt n w w2 v2 r c g a (q ++ [x]) k (x + 1) := by
  have o2 := h.so.setBool (k := x) (by rw [seenOf_len]; exact hx) true
  rw [seenOf_set] at o2
  have hl := h.lt
  have hz : ((wr.setCell ⟨n, x, none⟩ (.bool true)).alloc o).heap.size = wr.heap.size + 1 := by simp
  have hb1 := Below.pureAlloc (wr.setCell ⟨n, x, none⟩ (.bool true)) o
  rw [size_setCell] at hb1
  have hb2 : Below (n + 1) ((wr.setCell ⟨n, x, none⟩ (.bool true)).alloc o) w2 := hb.below (by omega) fun b hb => (h.qo.ownBlock b hb).1
  have hb3 : Below (n + 1) (wr.setCell ⟨n, x, none⟩ (.bool true)) w2 := (hb1.mono (by omega)).trans hb2
  have hs := hb2.size
  refine ⟨(rOwn rBoolV).same (sameOn_below hb3 fun b hb => by have hb : b = n := hb; omega) o2, ?_, h.inv.add hu hx he hn, (h.bel.setCell (p := ⟨n, x, none⟩) (Nat.le_refl _) _).trans (hb3.mono (Nat.le_succ _)), by omega⟩
  rw [intsN_snoc]
  refine (rOwn rIntV).mono (fun b hb => ⟨?_, hb.2⟩) ho
  rcases hb.1 with h1 | h1 | h1
  · exact h1.1
  · exact h1.elim
  · omega
theorem RSt.skip {n r c a k x u : Nat} {w wr : World} {qv : Value} {g : List (List Int)} {q : List Nat} (h : RSt n w wr qv r c g a q k x) (hu : q[k]? = some u) (hn : Edge r g u x → x ∈ q) : RSt n w wr qv r c g a q k (x + 1) := ⟨h.so, h.qo, h.inv.skip hu hn, h.bel, h.lt⟩
set_option maxRecDepth 100000 in
set_option maxHeartbeats 2000000 in
theorem l07Reach_c (v : Value) (m : List (List Int)) (r c a : Nat) (w : World) (hv : Grid w v m) (hs : Shape r c m) (hr1 : 1 ≤ r) (hr5 : r ≤ 5) (hc1 : 1 ≤ c) (hc5 : c ≤ 5) (ha : a < r + c) : Calls Tryd.prog 125 #[v, .int .i64 a] w fun e w' => ∃ q : List Nat, (∀ u, u ∈ q ↔ Reach r c m a u) ∧ e = .returned (.slice (some ⟨w.heap.size, 0, none⟩) (r + c) (r + c)) ∧ Own 4 BoolV (fun b => b = w.heap.size) w' (.slice (some ⟨w.heap.size, 0, none⟩) (r + c) (r + c)) (seenOf (r + c) q) ∧ Below w.heap.size w w' := by
  obtain ⟨b, off, cp, rfl, hb, hcl⟩ := hv.cells hs hr1 hc1
  have Hcl := Lib.hid hcl
  obtain ⟨b0, o0, c0, hc0, hb0, -⟩ := hcl 0 (by omega)
  rw [Nat.add_zero] at hc0
  clear hcl hv
  go_enter Tryd.func125, Tryd.ntmps125
  go_wp2_with (first | (at_make; (refine wpList_mk _ rfl _ _ 108 rfl 4 Tryd.underlying108 infoBool rfl (by decide) (R := BoolV) false rfl rBoolV (r + c) (by rfl) (by rfl) (by omega) ?_; intro w1 hown1 hbel1 hsz1; have hlt1 : w.heap.size < w1.heap.size := (by omega); have Hsz1 := Lib.hid hsz1; have Hown1 := Lib.hid hown1; obtain ⟨hce, hfe⟩ := hown1.bools_cell (k := a) (x := false) (List.getElem?_replicate_of_lt ha); clear hsz1 hown1)))
  have Hst := Lib.hid (show RSt w.heap.size w ((w1.setCell ⟨w.heap.size, a, none⟩ (.bool true)).alloc (.cells #[.int .i64 a] 3)) (.slice (some ⟨w1.heap.size, 0, none⟩) 1 1) r c m a [a] 0 0 from by
    have hsz := Hsz1.out
    have hz2 : (w1.setCell ⟨w.heap.size, a, none⟩ (.bool true)).heap.size = w1.heap.size := size_setCell _ _ _
    have hb2 := Below.pureAlloc (w1.setCell ⟨w.heap.size, a, none⟩ (.bool true)) (.cells #[.int .i64 a] 3)
    have o2 := Hown1.out.setBool (k := a) (by simpa using ha) true
    have o3 := (rOwn rBoolV).same (sameOn_below hb2 fun b hb => by have hb : b = w.heap.size := hb; omega) o2
    rw [← seenOf_nil, seenOf_set, List.nil_append] at o3
    refine ⟨o3, ?_, qinv_start m ha, (hbel1.setCell (p := ⟨w.heap.size, a, none⟩) (Nat.le_refl _) _).trans_pure hb2 (Nat.le_refl _), by simp; omega⟩
    refine .inr ⟨w1.heap.size, #[.int .i64 a], rfl, ⟨by omega, by simp⟩, ?_, by simp [intsN], by simp [maxLen], by simp [intsN], fun _ _ => False, fun _ _ h => h.elim, fun _ _ _ h => h.elim, fun k x h => by
      match k, h with
      | 0, h => simp [intsN] at h; subst h; exact ⟨_, rfl, rfl, I64.small (by omega) (by omega)⟩⟩
    have h := heap_alloc_new (w1.setCell ⟨w.heap.size, a, none⟩ (.bool true)) (.cells #[.int .i64 a] 3)
    rw [hz2] at h; exact h)
  clear Hown1 hce hfe
  go_loopw [7, 8, 9, 10, 11] (fun qv i _ _ _ wr => ∃ (k : Nat) (q : List Nat), i = .int .i64 k ∧ k ≤ q.length ∧ Hid (RSt w.heap.size w wr qv r c m a q k 0)) (fun _ i _ _ _ _ => r + c - (intOf i).toNat)
  case atStart => exact ⟨0, [a], rfl, Nat.zero_le _, Hst⟩
  case round =>
    clear Hst hc0
    obtain ⟨k, q, rfl, hk, St⟩ := hrel
    have hql := St.out.inv.len
    obtain ⟨n, hn⟩ : ∃ n, n = q.length := ⟨_, rfl⟩
    have Hn := Lib.hid hn
    rw [← hn] at hql hk
    by_cases hlt : k < n
    · obtain ⟨u, hu⟩ : ∃ u, q[k]? = some u := ⟨_, List.getElem?_eq_getElem (by rw [← hn]; exact hlt)⟩
      have hun := St.out.inv.lt u (List.mem_of_getElem? hu)
      obtain ⟨gq, cq, rfl, hgq, -, -, -⟩ := St.out.qo.inv_ne (by rw [intsN_len]; omega)
      have hcq := (St.out.qo.ints_cell (intsN_at hu)).1
      rw [intsN_len, ← hn]
      have Hu := Lib.hid hu
      clear hu hn
      go_wp2
      clear hcq
      go_loopw [7, 10, 11, 38] (fun qv _ _ i wr => ∃ (x : Nat) (q : List Nat), i = .int .i64 x ∧ x ≤ r + c ∧ Hid (q[k]? = some u) ∧ Hid (RSt w.heap.size w wr qv r c m a q k x)) (fun _ _ _ i _ => r + c - (intOf i).toNat)
      case atStart => exact ⟨0, q, rfl, Nat.zero_le _, Hu, Lib.hid (by have := St.out; rwa [intsN_len, ← Hn.out] at this)⟩
      case round =>
        clear St
        obtain ⟨x, q2, rfl, hx, Hu, St⟩ := hrel
        obtain ⟨gq, cq, rfl, hgq, -, -, -⟩ := St.out.qo.inv_ne (by rw [intsN_len]; have := (List.getElem?_eq_some_iff.1 Hu.out).1; omega)
        obtain ⟨N2, hN2⟩ : ∃ N2, N2 = (intsN q2).length := ⟨_, rfl⟩
        have hq2 := St.out.inv.len
        rw [← intsN_len, ← hN2] at hq2
        have hqlen : (intsN q2).length < 1099511627776 := by rw [← hN2]; omega
        rw [← hN2] at St ⊢
        clear hN2
        by_cases hltx : x < r + c
        · obtain ⟨hse, hsf⟩ := St.out.so.bools_cell (k := x) (seenOf_at q2 hltx)
          have hxI : I64 (x : Int) := I64.small (by omega) (by omega)
          have hz2 : (wr.setCell ⟨w.heap.size, x, none⟩ (.bool true)).heap.size = wr.heap.size := size_setCell _ _ _
          have hb2 := Below.pureAlloc (wr.setCell ⟨w.heap.size, x, none⟩ (.bool true)) (.cells #[.int .i64 x] 3)
          have Hq := Lib.hid (show Own 3 IntV (Iv (w.heap.size + 1) wr.heap.size) ((wr.setCell ⟨w.heap.size, x, none⟩ (.bool true)).alloc (.cells #[.int .i64 x] 3)) (.slice (some ⟨gq, 0, none⟩) N2 cq) (intsN q2) from
            (rOwn rIntV).same (sameOn_below hb2 fun b hb => by rw [hz2]; exact hb.2) ((rOwn rIntV).same (fun b hb => Below.heap_setCell _ ⟨w.heap.size, x, none⟩ (.bool true) b (by have := hb.1; show b ≠ w.heap.size; omega)) St.out.qo))
          have hn2 := cell_new1 (wr.setCell ⟨w.heap.size, x, none⟩ (.bool true)) (.int .i64 x) 3 0 _ rfl
          rw [hz2] at hn2
          have Hbx := Lib.hid (show (∀ b, Iv (w.heap.size + 1) wr.heap.size b → b < ((wr.setCell ⟨w.heap.size, x, none⟩ (.bool true)).alloc (.cells #[.int .i64 x] 3)).heap.size) ∧ ((wr.setCell ⟨w.heap.size, x, none⟩ (.bool true)).alloc (.cells #[.int .i64 x] 3)).cell? ⟨wr.heap.size, 0, none⟩ = some (.int .i64 x) from ⟨fun b hb => by have := hb.2; simp; omega, by simpa [Addr.add] using hn2⟩)
          clear hz2 hb2 hn2
          have hxrc : (x : Int) < (r : Int) + (c : Int) := by omega
          by_cases hvr : u < r
          · by_cases hwr : r ≤ x
            · obtain ⟨X, hX⟩ : ∃ X : Nat, (x : Int) - (r : Int) = (X : Int) := ⟨x - r, by omega⟩
              have hXc : X < c := by omega
              obtain ⟨br, offr, cpr, hmk, hbr, hmx⟩ := Hcl.out u hvr
              have hmk := (St.out.bel.cell (p := ⟨b, off + u, none⟩) hb).trans hmk
              have hmx := (St.out.bel.cell (p := ⟨br, offr + X, none⟩) hbr).trans (hmx X hXc)
              have He := Lib.hid (show Edge r m u x ↔ at2 m u X = 1 from ⟨fun h => by
                rcases h with ⟨-, -, h⟩ | ⟨h, -⟩
                · rwa [show x - r = X by omega] at h
                · omega, fun h => .inl ⟨hvr, hwr, by rwa [show x - r = X by omega]⟩⟩)
              obtain ⟨z, hz⟩ : ∃ z, z = at2 m u X := ⟨_, rfl⟩
              rw [← hz] at hmx He
              clear hz
              by_cases h1 : z = 1
              · have hze : (z == 1) = true := by simp [h1]
                have He2 := Lib.hid (He.out.2 h1)
                clear h1
                by_cases hin : x ∈ q2
                · have hd : decide (x ∈ q2) = true := decide_eq_true hin
                  rw [hd] at hse
                  have St2 := Lib.hid (St.out.skip Hu.out fun _ => hin)
                  clear hd hin
                  go_wp2
                  go_roundw
                  case rel => exact ⟨x + 1, q2, by go_num, by omega, Hu, St2⟩
                  case measure => simp [intOf]; omega
                · have hd : decide (x ∈ q2) = false := decide_eq_false hin
                  rw [hd] at hse
                  have Hin := Lib.hid hin
                  clear hd hin
                  go_wp2_with (first | (at_builtin; (refine wpList_app1g (w := (wr.setCell ⟨w.heap.size, x, none⟩ (.bool true)).alloc (.cells #[.int .i64 x] 3)) (v := .slice (some ⟨gq, 0, none⟩) N2 cq) (u := .int .i64 x) (xs := intsN q2) (x := (x : Int)) (gb := wr.heap.size) (c := 1) rfl _ _ 29 rfl rIntV 3 Tryd.underlying29 infoInt rfl (by decide) (Iv (w.heap.size + 1) wr.heap.size) (fun _ => False) rfl rfl (by exact Hbx.out.2) (by exact Hq.out) (by exact ⟨rfl, hxI⟩) (fun _ _ h => h) (by exact Hbx.out.1) (fun _ h => h.elim) hqlen ?_); intro v2 w2 hown2 hbel2) | fail)
                  have St2 := Lib.hid (St.out.add Hu.out hltx He2.out Hin.out hown2 hbel2)
                  have Hu2 := Lib.hid (show (q2 ++ [x])[k]? = some u from by rw [List.getElem?_append_left (List.getElem?_eq_some_iff.1 Hu.out).1]; exact Hu.out)
                  clear hown2
                  exact ⟨⟨x + 1, q2 ++ [x], by go_num, by omega, Hu2, St2⟩, by simp [intOf]; omega⟩
              · have hze : (z == 1) = false := by simp [h1]
                have St2 := Lib.hid (St.out.skip Hu.out fun e => absurd (He.out.1 e) h1)
                clear h1
                go_wp2
                go_roundw
                case rel => exact ⟨x + 1, q2, by go_num, by omega, Hu, St2⟩
                case measure => simp [intOf]; omega
            · have St2 := Lib.hid (St.out.skip Hu.out fun e => by
                rcases e with ⟨-, h, -⟩ | ⟨h, -⟩ <;> omega)
              go_wp2
              go_roundw
              case rel => exact ⟨x + 1, q2, by go_num, by omega, Hu, St2⟩
              case measure => simp [intOf]; omega
          · have hru : r ≤ u := by omega
            by_cases hwr : x < r
            · obtain ⟨X, hX⟩ : ∃ X : Nat, (u : Int) - (r : Int) = (X : Int) := ⟨u - r, by omega⟩
              have hXc : X < c := by omega
              obtain ⟨br, offr, cpr, hmk, hbr, hmx⟩ := Hcl.out x hwr
              have hmk := (St.out.bel.cell (p := ⟨b, off + x, none⟩) hb).trans hmk
              have hmx := (St.out.bel.cell (p := ⟨br, offr + X, none⟩) hbr).trans (hmx X hXc)
              have He := Lib.hid (show Edge r m u x ↔ at2 m x X = 0 from ⟨fun h => by
                rcases h with ⟨h, -⟩ | ⟨-, -, h⟩
                · omega
                · rwa [show u - r = X by omega] at h, fun h => .inr ⟨by omega, hwr, by rwa [show u - r = X by omega]⟩⟩)
              obtain ⟨z, hz⟩ : ∃ z, z = at2 m x X := ⟨_, rfl⟩
              rw [← hz] at hmx He
              clear hz
              by_cases h1 : z = 0
              · have hze : (z == 0) = true := by simp [h1]
                have He2 := Lib.hid (He.out.2 h1)
                clear h1
                by_cases hin : x ∈ q2
                · have hd : decide (x ∈ q2) = true := decide_eq_true hin
                  rw [hd] at hse
                  have St2 := Lib.hid (St.out.skip Hu.out fun _ => hin)
                  clear hd hin
                  go_wp2
                  go_roundw
                  case rel => exact ⟨x + 1, q2, by go_num, by omega, Hu, St2⟩
                  case measure => simp [intOf]; omega
                · have hd : decide (x ∈ q2) = false := decide_eq_false hin
                  rw [hd] at hse
                  have Hin := Lib.hid hin
                  clear hd hin
                  go_wp2_with (first | (at_builtin; (refine wpList_app1g (w := (wr.setCell ⟨w.heap.size, x, none⟩ (.bool true)).alloc (.cells #[.int .i64 x] 3)) (v := .slice (some ⟨gq, 0, none⟩) N2 cq) (u := .int .i64 x) (xs := intsN q2) (x := (x : Int)) (gb := wr.heap.size) (c := 1) rfl _ _ 29 rfl rIntV 3 Tryd.underlying29 infoInt rfl (by decide) (Iv (w.heap.size + 1) wr.heap.size) (fun _ => False) rfl rfl (by exact Hbx.out.2) (by exact Hq.out) (by exact ⟨rfl, hxI⟩) (fun _ _ h => h) (by exact Hbx.out.1) (fun _ h => h.elim) hqlen ?_); intro v2 w2 hown2 hbel2) | fail)
                  have St2 := Lib.hid (St.out.add Hu.out hltx He2.out Hin.out hown2 hbel2)
                  have Hu2 := Lib.hid (show (q2 ++ [x])[k]? = some u from by rw [List.getElem?_append_left (List.getElem?_eq_some_iff.1 Hu.out).1]; exact Hu.out)
                  clear hown2
                  exact ⟨⟨x + 1, q2 ++ [x], by go_num, by omega, Hu2, St2⟩, by simp [intOf]; omega⟩
              · have hze : (z == 0) = false := by simp [h1]
                have St2 := Lib.hid (St.out.skip Hu.out fun e => absurd (He.out.1 e) h1)
                clear h1
                go_wp2
                go_roundw
                case rel => exact ⟨x + 1, q2, by go_num, by omega, Hu, St2⟩
                case measure => simp [intOf]; omega
            · have St2 := Lib.hid (St.out.skip Hu.out fun e => by
                rcases e with ⟨h, -⟩ | ⟨-, h, -⟩ <;> omega)
              go_wp2
              go_roundw
              case rel => exact ⟨x + 1, q2, by go_num, by omega, Hu, St2⟩
              case measure => simp [intOf]; omega
        · have hxn : x = r + c := by omega
          have hkl := (List.getElem?_eq_some_iff.1 Hu.out).1
          have St2 := Lib.hid (show RSt w.heap.size w wr (.slice (some ⟨gq, 0, none⟩) N2 cq) r c m a q2 (k + 1) 0 from ⟨St.out.so, St.out.qo, St.out.inv.next (by omega), St.out.bel, St.out.lt⟩)
          clear hxn
          go_wp2
          go_roundw
          case rel => exact ⟨k + 1, q2, by go_num, hkl, St2⟩
          case measure => simp [intOf]; omega
    · obtain rfl : k = n := by omega
      obtain ⟨gq, cq, rfl, hgq, -, -, -⟩ := St.out.qo.inv_ne (by rw [intsN_len, ← hn]; have := List.length_pos_of_mem St.out.inv.start; omega)
      rw [intsN_len, ← hn]
      have Hfin := Lib.hid (St.out.inv.all (Nat.le_of_eq hn.symm) ha)
      clear hn
      go_wp2
      go_ret
      exact ⟨q, Hfin.out, rfl, St.out.so, St.out.bel⟩
end Go.Proofs.YtekgnpdchpdfiaaDoor

namespace Go.Proofs.YtekgnpdchpdfiaaDoor
open Go.RowKit

def imageLineG (m : List (List Int)) : ByteArray := if imageOk m then imageLineOf m.length (m.headD []).length m else ByteArray.empty
theorem imageLineG_ok {r c : Nat} {m : List (List Int)} (h : Shape r c m) (h1 : 1 ≤ r) (h2 : r ≤ 5) (h3 : 1 ≤ c) (h4 : c ≤ 5) : imageLineG m = imageLineOf r c m := by
  unfold imageLineG
  rw [if_pos (h.ok h1 h2 h3 h4), h.1, h.head h1]
theorem ImageLine_ig (v : Value) (m : List (List Int)) (w : World) (hv : Grid w v m) (ht : Tab w) : Calls Tryd.prog 21 #[v] w fun e w' => e = .returned (.string (imageLineG m)) ∧ Below w.heap.size w w' := by
  cases hok : imageOk m
  · have Hr := Lib.hid (show imageLineG m = ByteArray.empty from by simp [imageLineG, hok])
    have Hok := Lib.hid hok; clear hok
    obtain ⟨a, cap, rfl, -⟩ := id hv
    go_enter Tryd.func21, Tryd.ntmps21
    go_wp2_with (fail)
    refine (ImageOk_i _ _ _ hv).mono ?_
    rintro e w' ⟨rfl, rfl⟩
    rw [Hok.out]
    go_wp2
    go_ret
    exact ⟨retS Hr.out.symm, Below.refl _ _⟩
  · obtain ⟨r, c, hr1, hr5, hc1, hc5, hsh⟩ := imageOk_shape hok
    rw [imageLineG_ok hsh hr1 hr5 hc1 hc5]
    exact ImageLine_i v m r c w hv hsh hr1 hr5 hc1 hc5 ht
theorem l07Reach_n (v : Value) (m : List (List Int)) (r c a : Nat) (n : Int) (w : World) (hn : n = (a : Int)) (hv : Grid w v m) (hs : Shape r c m) (hr1 : 1 ≤ r) (hr5 : r ≤ 5) (hc1 : 1 ≤ c) (hc5 : c ≤ 5) (ha : a < r + c) : Calls Tryd.prog 125 #[v, .int .i64 n] w fun e w' => ∃ q : List Nat, (∀ u, u ∈ q ↔ Reach r c m a u) ∧ e = .returned (.slice (some ⟨w.heap.size, 0, none⟩) (r + c) (r + c)) ∧ Own 4 BoolV (fun b => b = w.heap.size) w' (.slice (some ⟨w.heap.size, 0, none⟩) (r + c) (r + c)) (seenOf (r + c) q) ∧ Below w.heap.size w w' := by
  subst hn
  exact l07Reach_c v m r c a w hv hs hr1 hr5 hc1 hc5 ha
set_option maxRecDepth 100000 in
set_option maxHeartbeats 1000000 in
theorem IsFixed_s (v : Value) (m : List (List Int)) (r c y x : Nat) (w : World) (hv : Grid w v m) (hs : Shape r c m) (hr1 : 1 ≤ r) (hr5 : r ≤ 5) (hc1 : 1 ≤ c) (hc5 : c ≤ 5) (hy : y < r) (hx : x < c) :
    Calls Tryd.prog 112 #[v, .int .i64 y, .int .i64 x] w fun e w' => ∃ z : Bool, e = .returned (.bool z) ∧ (z = false ↔ Reach r c m (fromOf r m y x) (toOf r m y x)) ∧ Below w.heap.size w w' := by
  obtain ⟨b, off, cp, rfl, hb, hcl⟩ := hv.cells hs hr1 hc1
  have Hv := Lib.hid hv
  obtain ⟨br, offr, cpr, hmk, hbr, hmx⟩ := hcl y hy
  replace hmx := hmx x hx
  have Hb := Lib.hid (inB_iff (r := r) (c := c) (y := y) (x := x).2 (by omega))
  obtain ⟨hf, ht⟩ := fromOf_lt (r := r) (c := c) (m := m) hy hx
  have Hf := Lib.hid (show (at2 m y x = 1 → fromOf r m y x = r + x ∧ toOf r m y x = y) ∧ (at2 m y x ≠ 1 → fromOf r m y x = y ∧ toOf r m y x = r + x) from by
    unfold fromOf toOf
    exact ⟨fun h => by rw [if_pos h, if_pos h]; exact ⟨rfl, rfl⟩, fun h => by rw [if_neg h, if_neg h]; exact ⟨rfl, rfl⟩⟩)
  obtain ⟨z, hz⟩ : ∃ z, z = at2 m y x := ⟨_, rfl⟩
  rw [← hz] at hmx Hf
  obtain ⟨A, hA⟩ : ∃ A, A = fromOf r m y x := ⟨_, rfl⟩
  obtain ⟨B, hB⟩ : ∃ B, B = toOf r m y x := ⟨_, rfl⟩
  rw [← hA, ← hB] at Hf ⊢
  rw [← hA] at hf
  rw [← hB] at ht
  clear hz hA hB hcl hv
  by_cases h1 : z = 1
  · obtain ⟨e1, e2⟩ := Hf.out.1 h1
    have hze : (z == 1) = true := by simp [h1]
    have Hn := Lib.hid (show (r : Int) + (x : Int) = (A : Int) from by omega)
    have HyB := Lib.hid (show y = B from e2.symm)
    clear h1 e1 e2
    go_enter Tryd.func112, Tryd.ntmps112
    go_wp2_with (fail)
    refine (l02In_c _ _ _ _ _ _ _ Hv.out hs hr1 hr5 hc1 hc5).mono ?_
    rintro e w' ⟨rfl, rfl⟩
    rw [Hb.out]
    go_wp2_with (fail)
    refine (l07Reach_n _ m r c A _ _ Hn.out Hv.out hs hr1 hr5 hc1 hc5 hf).mono ?_
    rintro e w2 ⟨q, hq, rfl, so, b2⟩
    have hce := (so.bools_cell (k := y) (seenOf_at q (by omega))).1
    have hyrc : (y : Int) < (r : Int) + (c : Int) := by omega
    have Hq := Lib.hid (hq B)
    rw [← HyB.out] at Hq
    obtain ⟨s, hs'⟩ : ∃ s, s = decide (y ∈ q) := ⟨_, rfl⟩
    rw [← hs'] at hce
    have Hs := Lib.hid hs'
    clear hs' so hq
    go_wp2
    go_ret
    refine ⟨!s, rfl, ?_, b2⟩
    rw [← HyB.out, ← Hq.out, Hs.out]; simp
  · obtain ⟨e1, e2⟩ := Hf.out.2 h1
    have hze : (z == 1) = false := by simp [h1]
    have Hn := Lib.hid (show (y : Int) = (A : Int) from by omega)
    obtain ⟨X, hX⟩ : ∃ X : Nat, (r : Int) + (x : Int) = (X : Int) := ⟨r + x, by omega⟩
    have HyB := Lib.hid (show X = B from by omega)
    clear h1 e1 e2
    go_enter Tryd.func112, Tryd.ntmps112
    go_wp2_with (fail)
    refine (l02In_c _ _ _ _ _ _ _ Hv.out hs hr1 hr5 hc1 hc5).mono ?_
    rintro e w' ⟨rfl, rfl⟩
    rw [Hb.out]
    go_wp2_with (fail)
    refine (l07Reach_n _ m r c A _ _ Hn.out Hv.out hs hr1 hr5 hc1 hc5 hf).mono ?_
    rintro e w2 ⟨q, hq, rfl, so, b2⟩
    have hce := (so.bools_cell (k := X) (seenOf_at q (by have := HyB.out; omega))).1
    have hyrc : X < r + c := by have := HyB.out; omega
    have Hq := Lib.hid (hq B)
    rw [← HyB.out] at Hq
    obtain ⟨s, hs'⟩ : ∃ s, s = decide (X ∈ q) := ⟨_, rfl⟩
    rw [← hs'] at hce
    have Hs := Lib.hid hs'
    clear hs' so hq
    go_wp2
    go_ret
    refine ⟨!s, rfl, ?_, b2⟩
    rw [← HyB.out, ← Hq.out, Hs.out]; simp
set_option maxHeartbeats 1000000 in
theorem FreeCells_s (v : Value) (m : List (List Int)) (r c : Nat) (w : World) (hv : Grid w v m) (hs : Shape r c m) (hr1 : 1 ≤ r) (hr5 : r ≤ 5) (hc1 : 1 ≤ c) (hc5 : c ≤ 5) : Calls Tryd.prog 82 #[v] w fun e w' => e = .returned (.int .i64 (negs (fixedOf (rowSumsOf m) (colSumsOf m)))) ∧ Below w.heap.size w w' := by
  have Hv := Lib.hid hv
  have Hok := Lib.hid (hs.ok hr1 hr5 hc1 hc5)
  have Hat := Lib.hid (fun y (hy : y < r) => fixedOf_at hs hr1 hr5 hc1 hc5 hy)
  have hlen := (fix_ok hs hr1 hr5 hc1 hc5).len
  obtain ⟨F, hF⟩ : ∃ F, F = fixedOf (rowSumsOf m) (colSumsOf m) := ⟨_, rfl⟩
  rw [← hF] at Hat hlen ⊢
  have Hlen := Lib.hid hlen
  obtain ⟨b, off, cp, rfl, hb, hcl⟩ := hv.cells hs hr1 hc1
  have Hcl := Lib.hid hcl
  clear hF hcl hv hlen
  go_enter Tryd.func82, Tryd.ntmps82
  go_wp2_with (fail)
  refine (ImageOk_s _ _ _ Hv.out).mono ?_
  rintro e w' ⟨rfl, rfl⟩
  rw [Hok.out]
  go_wp2
  go_loopw [3, 4, 5, 6, 12] (fun n _ _ _ i wr => ∃ k : Nat, k ≤ r ∧ i = .int .i64 k ∧ n = .int .i64 (negs (F.take k)) ∧ negs (F.take k) ≤ 5 * k ∧ Hid (Below w.heap.size w wr)) (fun _ _ _ _ i _ => r - (intOf i).toNat)
  case atStart => exact ⟨0, Nat.zero_le _, rfl, by simp [negs], by simp [negs], Below.refl _ _⟩
  case round =>
    obtain ⟨k, hk, rfl, rfl, hn, Hb⟩ := hrel
    by_cases hlt : k < r
    · obtain ⟨l, hl, hll, hlx⟩ := Hat.out k hlt
      obtain ⟨br, offr, cpr, hmk, hbr, -⟩ := Hcl.out k hlt
      have hmk' := (Hb.out.cell (p := ⟨b, off + k, none⟩) hb).trans hmk
      have Hl := Lib.hid hl
      have Hll := Lib.hid hll
      have Hlx := Lib.hid hlx
      obtain ⟨N, hN⟩ : ∃ N, N = negs (F.take k) := ⟨_, rfl⟩
      rw [← hN] at hn ⊢
      clear hl hlx hmk hll
      go_wp2
      clear hmk'
      go_loopw [3, 6, 19] (fun n _ i wr => ∃ x : Nat, x ≤ c ∧ i = .int .i64 x ∧ n = .int .i64 ((N + negRow (l.take x) : Nat) : Int) ∧ negRow (l.take x) ≤ x ∧ Hid (Below w.heap.size w wr)) (fun _ _ i _ => c - (intOf i).toNat)
      case atStart => exact ⟨0, Nat.zero_le _, rfl, by simp [negRow], by simp [negRow], Hb⟩
      case round =>
        clear Hb
        obtain ⟨x, hx, rfl, rfl, hnx, Hb⟩ := hrel
        by_cases hlt2 : x < c
        · obtain ⟨f, hf, hfr⟩ := Hlx.out x hlt2
          have Hn := Lib.hid (negRow_take hf)
          have Hfr := Lib.hid hfr
          clear hf hfr
          obtain ⟨N2, hN2⟩ : ∃ N2, N2 = negRow (l.take x) := ⟨_, rfl⟩
          rw [← hN2] at hnx ⊢ Hn
          clear hN2
          go_wp2_with (fail)
          refine (IsFixed_s _ m r c k x _ (Hv.out.keep Hb.out) hs hr1 hr5 hc1 hc5 hlt hlt2).mono ?_
          rintro e w5 ⟨z, rfl, hz, b5⟩
          have Hb5 := Lib.hid (Hb.out.trans_pure b5 (Nat.le_refl _))
          cases z
          · have Hlt := Lib.hid (Hfr.out.2 (hz.1 rfl))
            clear hz
            go_wp2
            go_roundw
            case rel => exact ⟨x + 1, by omega, by go_num, by rw [Hn.out, if_pos Hlt.out]; go_num, by rw [Hn.out, if_pos Hlt.out]; omega, Hb5⟩
            case measure => simp [intOf]; omega
          · have Hge := Lib.hid (show ¬ f < 0 from fun h => by have := hz.2 (Hfr.out.1 h); cases this)
            have Hm2 := Lib.hid (show negRow (l.take (x + 1)) = N2 from by rw [Hn.out, if_neg Hge.out]; omega)
            clear hz
            go_wp2
            go_roundw
            case rel => exact ⟨x + 1, by omega, by go_num, by rw [Hm2.out]; go_num, by rw [Hm2.out]; omega, Hb5⟩
            case measure => simp [intOf]; omega
        · obtain rfl : x = c := by omega
          have hlast : l.take x = l := List.take_of_length_le (Nat.le_of_eq Hll.out)
          rw [hlast] at hnx ⊢
          have Hs := Lib.hid (negs_take Hl.out)
          go_wp2
          go_roundw
          case rel => exact ⟨k + 1, by omega, by go_num, by rw [Hs.out, ← hN], by rw [Hs.out, ← hN]; omega, Hb⟩
          case measure => simp [intOf]; omega
    · obtain rfl : k = r := by omega
      rw [List.take_of_length_le (Nat.le_of_eq Hlen.out)] at hn ⊢
      go_wp2
      go_ret
      exact ⟨rfl, Hb.out⟩
set_option maxRecDepth 100000 in
set_option maxHeartbeats 1000000 in
theorem ImageLine_s (v : Value) (m : List (List Int)) (r c : Nat) (w : World) (hv : Grid w v m) (hs : Shape r c m) (hr1 : 1 ≤ r) (hr5 : r ≤ 5) (hc1 : 1 ≤ c) (hc5 : c ≤ 5) : Calls Tryd.prog 39 #[v] w fun e w' => e = .returned (.string (imageLineOf r c m)) ∧ Below w.heap.size w w' := by
  have Hv := Lib.hid hv
  have Hok := Lib.hid (hs.ok hr1 hr5 hc1 hc5)
  have hsz := imageLine_sz hs hr1 hr5 hc1 hc5
  have hneg := negs_bd (fix_ok hs hr1 hr5 hc1 hc5) hr5 hc5
  have hl1 := (rowSumsOf_wf hs hr1 hr5 hc1 hc5).1
  have hl2 := (colSumsOf_wf hs hr1 hr5 hc1 hc5).1
  obtain ⟨A, hA⟩ : ∃ A, A = formatImage m := ⟨_, rfl⟩
  obtain ⟨B, hB⟩ : ∃ B, B = sumsText (rowSumsOf m) := ⟨_, rfl⟩
  obtain ⟨C, hC⟩ : ∃ C, C = sumsText (colSumsOf m) := ⟨_, rfl⟩
  obtain ⟨N, hN⟩ : ∃ N, N = negs (fixedOf (rowSumsOf m) (colSumsOf m)) := ⟨_, rfl⟩
  rw [← hN] at hneg
  rw [← hA, ← hB, ← hC, ← hN] at hsz
  have HA := Lib.hid hA
  have HB := Lib.hid hB
  have HC := Lib.hid hC
  have HN := Lib.hid hN
  obtain ⟨za, zb, zc, zd, z1, z2, z3, z4, z5⟩ := hsz
  clear hA hB hC hN
  obtain ⟨a, cap, rfl, -⟩ := hv
  go_enter Tryd.func39, Tryd.ntmps39
  go_wp2_with (fail)
  refine (ImageOk_s _ _ _ Hv.out).mono ?_
  rintro e w' ⟨rfl, rfl⟩
  rw [Hok.out]
  go_wp2_with (fail)
  refine (FormatImage_s _ _ _ Hv.out).mono ?_
  rintro e w1 ⟨rfl, b1⟩
  rw [← HA.out]
  go_wp2_with (fail)
  refine (RowSums_s _ _ _ (Hv.out.keep b1)).mono ?_
  rintro e w2 ⟨v2, rfl, o2, b2⟩
  have bb2 := b1.trans_pure b2 (Nat.le_refl _)
  go_wp2_with (fail)
  refine (FormatSums_s _ _ _ o2.ints (by omega)).mono ?_
  rintro e w3 ⟨rfl, b3⟩
  rw [← HB.out]
  have bb3 := bb2.trans_pure b3 (Nat.le_refl _)
  clear o2
  go_wp2_with (fail)
  refine (ColSums_s _ _ _ (Hv.out.keep bb3)).mono ?_
  rintro e w4 ⟨v4, rfl, o4, b4⟩
  have bb4 := bb3.trans_pure b4 (Nat.le_refl _)
  go_wp2_with (fail)
  refine (FormatSums_s _ _ _ o4.ints (by omega)).mono ?_
  rintro e w5 ⟨rfl, b5⟩
  rw [← HC.out]
  have bb5 := bb4.trans_pure b5 (Nat.le_refl _)
  clear o4
  go_wp2_with (fail)
  refine (IsUnique_s _ m r c _ (Hv.out.keep bb5) hs hr1 hr5 hc1 hc5).mono ?_
  rintro e w6 ⟨rfl, b6⟩
  have bb6 := bb5.trans_pure b6 (Nat.le_refl _)
  by_cases hu : switchesOf r c m = []
  · rw [decide_eq_true hu]
    have Hr := Lib.hid (show A ++ ⟨#[32, 114, 111, 119, 115, 32]⟩ ++ B ++ ⟨#[32, 99, 111, 108, 115, 32]⟩ ++ C ++ ⟨#[32, 117, 110, 105, 113, 117, 101]⟩ = imageLineOf r c m from by unfold imageLineOf; rw [if_pos hu, HA.out, HB.out, HC.out])
    clear hu
    go_wp2
    go_ret
    exact ⟨retS Hr.out, bb6⟩
  · rw [decide_eq_false hu]
    have Hr := Lib.hid (show A ++ ⟨#[32, 114, 111, 119, 115, 32]⟩ ++ B ++ ⟨#[32, 99, 111, 108, 115, 32]⟩ ++ C ++ ⟨#[32, 102, 114, 101, 101, 32]⟩ ++ fmtInt N = imageLineOf r c m from by unfold imageLineOf; rw [if_neg hu, HA.out, HB.out, HC.out, HN.out])
    clear hu
    go_wp2_with (fail)
    refine (FreeCells_s _ m r c _ (Hv.out.keep bb6) hs hr1 hr5 hc1 hc5).mono ?_
    rintro e w7 ⟨rfl, b7⟩
    rw [← HN.out]
    have bb7 := bb6.trans_pure b7 (Nat.le_refl _)
    go_wp2_with (fail)
    refine (FormatInt_s _ (I64.small (by omega) (by omega)) _).mono ?_
    rintro e w8 ⟨rfl, b8⟩
    have bb8 := bb7.trans_pure b8 (Nat.le_refl _)
    go_wp2
    go_ret
    exact ⟨retS Hr.out, bb8⟩
theorem ImageLine_sg (v : Value) (m : List (List Int)) (w : World) (hv : Grid w v m) : Calls Tryd.prog 39 #[v] w fun e w' => e = .returned (.string (imageLineG m)) ∧ Below w.heap.size w w' := by
  cases hok : imageOk m
  · have Hr := Lib.hid (show imageLineG m = ByteArray.empty from by simp [imageLineG, hok])
    have Hok := Lib.hid hok; clear hok
    obtain ⟨a, cap, rfl, -⟩ := id hv
    go_enter Tryd.func39, Tryd.ntmps39
    go_wp2_with (fail)
    refine (ImageOk_s _ _ _ hv).mono ?_
    rintro e w' ⟨rfl, rfl⟩
    rw [Hok.out]
    go_wp2
    go_ret
    exact ⟨retS Hr.out.symm, Below.refl _ _⟩
  · obtain ⟨r, c, hr1, hr5, hc1, hc5, hsh⟩ := imageOk_shape hok
    rw [imageLineG_ok hsh hr1 hr5 hc1 hc5]
    exact ImageLine_s v m r c w hv hsh hr1 hr5 hc1 hc5
end Go.Proofs.YtekgnpdchpdfiaaDoor

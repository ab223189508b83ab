/- Contracts and plain laws that the claims on sessions use. No condition of their own. -/
import Derived.Test.YthmocomfjgmjoaaGreatDoorQ20
import Derived.Test.YthmocomfjgmjoaaGreatDoorQ05
import Derived.Test.YthmocomfjgmjoaaGreatDoorQ04
import Derived.Test.YthmocomfjgmjoaaGreatDoorQ01
import Derived.Test.YthmocomfjgmjoaaGreatDoorQ10
import Derived.Test.YthmocomfjgmjoaaGreatDoorQ11
set_option maxHeartbeats 1000000
set_option maxRecDepth 100000
namespace Go.Proofs.YthmocomfjgmjoaaGreatDoor
open Go.RowKit
theorem rowSums_64 {r c : Nat} {m : List (List Int)} (h : Shape r c m) (h1 : 1 ≤ r) (h2 : r ≤ 5) (h3 : 1 ≤ c) (h4 : c ≤ 5) : Ints64 (rowSumsOf m) ∧ Ints64 (colSumsOf m) :=
  ⟨fun x hx => by have := (rowSumsOf_wf h h1 h2 h3 h4).2 x hx; exact I64.small (by omega) (by omega), fun x hx => by have := (colSumsOf_wf h h1 h2 h3 h4).2 x hx; exact I64.small (by omega) (by omega)⟩
def imageLineOf (r c : Nat) (m : List (List Int)) : ByteArray :=
  if switchesOf r c m = [] then formatImage m ++ ⟨#[32, 114, 111, 119, 115, 32]⟩ ++ sumsText (rowSumsOf m) ++ ⟨#[32, 99, 111, 108, 115, 32]⟩ ++ sumsText (colSumsOf m) ++ ⟨#[32, 117, 110, 105, 113, 117, 101]⟩
  else formatImage m ++ ⟨#[32, 114, 111, 119, 115, 32]⟩ ++ sumsText (rowSumsOf m) ++ ⟨#[32, 99, 111, 108, 115, 32]⟩ ++ sumsText (colSumsOf m) ++ ⟨#[32, 102, 114, 101, 101, 32]⟩ ++ fmtInt (negs (fixedOf (rowSumsOf m) (colSumsOf m)))
theorem fmtImg_size5 {r c : Nat} {m : List (List Int)} (h : Shape r c m) (h1 : 1 ≤ r) (h2 : r ≤ 5) (h3 : 1 ≤ c) (h4 : c ≤ 5) : (formatImage m).size ≤ 1000 := by
  unfold formatImage
  rw [if_pos (h.ok h1 h2 h3 h4)]
  have h5 := (imageOk_trits (h.ok h1 h2 h3 h4)).bulk
  have h6 : (signsOf m).size ≤ bulkB ⟨#[47]⟩ (m.map signRow) := joinB_size _ _
  omega
structure LineSz (A B C D : ByteArray) : Prop where
  a : A.size ≤ 1000
  b : B.size ≤ 1000
  c : C.size ≤ 1000
  d : D.size ≤ 20
  l1 : (A ++ ⟨#[32, 114, 111, 119, 115, 32]⟩ : ByteArray).size ≤ 2000
  l2 : (A ++ ⟨#[32, 114, 111, 119, 115, 32]⟩ ++ B : ByteArray).size ≤ 3000
  l3 : (A ++ ⟨#[32, 114, 111, 119, 115, 32]⟩ ++ B ++ ⟨#[32, 99, 111, 108, 115, 32]⟩ : ByteArray).size ≤ 4000
  l4 : (A ++ ⟨#[32, 114, 111, 119, 115, 32]⟩ ++ B ++ ⟨#[32, 99, 111, 108, 115, 32]⟩ ++ C : ByteArray).size ≤ 5000
  l5 : (A ++ ⟨#[32, 114, 111, 119, 115, 32]⟩ ++ B ++ ⟨#[32, 99, 111, 108, 115, 32]⟩ ++ C ++ ⟨#[32, 102, 114, 101, 101, 32]⟩ : ByteArray).size ≤ 6000
theorem lineSz {A B C D : ByteArray} (a : A.size ≤ 1000) (b : B.size ≤ 1000) (c : C.size ≤ 1000) (d : D.size ≤ 20) : LineSz A B C D := by
  have e1 : (⟨#[32, 114, 111, 119, 115, 32]⟩ : ByteArray).size = 6 := rfl
  have e2 : (⟨#[32, 99, 111, 108, 115, 32]⟩ : ByteArray).size = 6 := rfl
  have e3 : (⟨#[32, 102, 114, 101, 101, 32]⟩ : ByteArray).size = 6 := rfl
  refine ⟨a, b, c, d, ?_, ?_, ?_, ?_, ?_⟩ <;> simp only [ba_append_size, e1, e2, e3] <;> omega
theorem negs_bd {r c : Nat} {m F : List (List Int)} (h : FixOk r c m F) (hr : r ≤ 5) (hc : c ≤ 5) : negs F ≤ 25 := by
  have key : ∀ k, k ≤ r → negs (F.take k) ≤ 5 * k := by
    intro k
    induction k with
    | zero => intro _; simp [negs]
    | succ k ih =>
      intro hk
      obtain ⟨l, hl, hll, -⟩ := h.row k (by omega)
      rw [negs_take hl]
      have := ih (by omega)
      have := negRow_le l
      omega
  have := key r (Nat.le_refl _)
  rw [List.take_of_length_le (by rw [h.len]; exact Nat.le_refl _)] at this
  omega
theorem imageLine_sz {r c : Nat} {m : List (List Int)} (h : Shape r c m) (h1 : 1 ≤ r) (h2 : r ≤ 5) (h3 : 1 ≤ c) (h4 : c ≤ 5) : LineSz (formatImage m) (sumsText (rowSumsOf m)) (sumsText (colSumsOf m)) (fmtInt (negs (fixedOf (rowSumsOf m) (colSumsOf m)))) := by
  obtain ⟨i1, i2⟩ := rowSums_64 h h1 h2 h3 h4
  have l1 := (rowSumsOf_wf h h1 h2 h3 h4).1
  have l2 := (colSumsOf_wf h h1 h2 h3 h4).1
  have s1 := sumsText_size i1
  have s2 := sumsText_size i2
  have n1 := negs_bd (fix_ok h h1 h2 h3 h4) h2 h4
  exact lineSz (fmtImg_size5 h h1 h2 h3 h4) (by omega) (by omega) (fmt_size (by omega))
theorem ImageLine_i (v : Value) (m : List (List Int)) (r c : Nat) (w : World) (hv : Grid w v m) (hs : Shape r c m) (hr1 : 1 ≤ r) (hr5 : r ≤ 5) (hc1 : 1 ≤ c) (hc5 : c ≤ 5) (ht : Tab w) : Calls Tryz.prog 45 #[v] w fun e w' => e = .returned (.string (imageLineOf r c m)) ∧ Below w.heap.size w w' := by
  have Hv := Lib.hid hv
  have Hok := Lib.hid (hs.ok hr1 hr5 hc1 hc5)
  have hsz := imageLine_sz hs hr1 hr5 hc1 hc5
  have hneg := negs_bd (fix_ok hs hr1 hr5 hc1 hc5) hr5 hc5
  have hl1 := (rowSumsOf_wf hs hr1 hr5 hc1 hc5).1
  have hl2 := (colSumsOf_wf hs hr1 hr5 hc1 hc5).1
  obtain ⟨A, hA⟩ : ∃ A, A = formatImage m := ⟨_, rfl⟩
  obtain ⟨B, hB⟩ : ∃ B, B = sumsText (rowSumsOf m) := ⟨_, rfl⟩
  obtain ⟨C, hC⟩ : ∃ C, C = sumsText (colSumsOf m) := ⟨_, rfl⟩
  obtain ⟨N, hN⟩ : ∃ N, N = negs (fixedOf (rowSumsOf m) (colSumsOf m)) := ⟨_, rfl⟩
  rw [← hN] at hneg
  rw [← hA, ← hB, ← hC, ← hN] at hsz
  have HA := Lib.hid hA
  have HB := Lib.hid hB
  have HC := Lib.hid hC
  have HN := Lib.hid hN
  have HT := Lib.hid ht
  obtain ⟨za, zb, zc, zd, z1, z2, z3, z4, z5⟩ := hsz
  clear hA hB hC hN ht
  obtain ⟨a, cap, rfl, -⟩ := hv
  go_enter Tryz.func45, Tryz.ntmps45
  go_wp2_with (fail)
  refine (ImageOk_i _ _ _ Hv.out).mono ?_
  rintro e w' ⟨rfl, rfl⟩
  rw [Hok.out]
  go_wp2_with (fail)
  refine (FormatImage_i _ _ _ Hv.out).mono ?_
  rintro e w1 ⟨rfl, b1⟩
  rw [← HA.out]
  go_wp2_with (fail)
  refine (RowSums_i _ _ _ (Hv.out.keep b1)).mono ?_
  rintro e w2 ⟨v2, rfl, o2, b2⟩
  have bb2 := b1.trans_pure b2 (Nat.le_refl _)
  go_wp2_with (fail)
  refine (FormatSums_i _ _ _ o2.ints (by omega) (HT.out.keep bb2)).mono ?_
  rintro e w3 ⟨rfl, b3⟩
  rw [← HB.out]
  have bb3 := bb2.trans_pure b3 (Nat.le_refl _)
  clear o2
  go_wp2_with (fail)
  refine (ColSums_i _ _ _ (Hv.out.keep bb3)).mono ?_
  rintro e w4 ⟨v4, rfl, o4, b4⟩
  have bb4 := bb3.trans_pure b4 (Nat.le_refl _)
  go_wp2_with (fail)
  refine (FormatSums_i _ _ _ o4.ints (by omega) (HT.out.keep bb4)).mono ?_
  rintro e w5 ⟨rfl, b5⟩
  rw [← HC.out]
  have bb5 := bb4.trans_pure b5 (Nat.le_refl _)
  clear o4
  go_wp2_with (fail)
  refine (IsUnique_i _ m r c _ (Hv.out.keep bb5) hs hr1 hr5 hc1 hc5).mono ?_
  rintro e w6 ⟨rfl, b6⟩
  have bb6 := bb5.trans_pure b6 (Nat.le_refl _)
  by_cases hu : switchesOf r c m = []
  · rw [decide_eq_true hu]
    have Hr := Lib.hid (show A ++ ⟨#[32, 114, 111, 119, 115, 32]⟩ ++ B ++ ⟨#[32, 99, 111, 108, 115, 32]⟩ ++ C ++ ⟨#[32, 117, 110, 105, 113, 117, 101]⟩ = imageLineOf r c m from by unfold imageLineOf; rw [if_pos hu, HA.out, HB.out, HC.out])
    clear hu
    go_wp2
    go_ret
    exact ⟨retS Hr.out, bb6⟩
  · rw [decide_eq_false hu]
    have Hr := Lib.hid (show A ++ ⟨#[32, 114, 111, 119, 115, 32]⟩ ++ B ++ ⟨#[32, 99, 111, 108, 115, 32]⟩ ++ C ++ ⟨#[32, 102, 114, 101, 101, 32]⟩ ++ fmtInt N = imageLineOf r c m from by unfold imageLineOf; rw [if_neg hu, HA.out, HB.out, HC.out, HN.out])
    clear hu
    go_wp2_with (fail)
    refine (FreeCells_i _ m r c _ (Hv.out.keep bb6) hs hr1 hr5 hc1 hc5).mono ?_
    rintro e w7 ⟨rfl, b7⟩
    rw [← HN.out]
    have bb7 := bb6.trans_pure b7 (Nat.le_refl _)
    go_wp2_with (fail)
    refine (FormatInt_i _ (I64.small (by omega) (by omega)) _ (HT.out.keep bb7)).mono ?_
    rintro e w8 ⟨rfl, b8⟩
    have bb8 := bb7.trans_pure b8 (Nat.le_refl _)
    go_wp2
    go_ret
    exact ⟨retS Hr.out, bb8⟩
theorem Own.setBool {E : TypeId} {S : Bk} {w : World} {g n cap : Nat} {xs : List Bool} (h : Own E BoolV S w (.slice (some ⟨g, 0, none⟩) n cap) xs) {k : Nat} (hk : k < xs.length) (c : Bool) : Own E BoolV S (w.setCell ⟨g, k, none⟩ (.bool c)) (.slice (some ⟨g, 0, none⟩) n cap) (xs.set k c) := by
  obtain ⟨_, _, _, _, T, u, _, _, _, h1, _⟩ := h.focus rBoolV (List.getElem?_eq_getElem hk)
  exact h1 (.bool c) c (fun _ => False) S rfl (fun _ x => x.elim) (fun _ x => x.elim) (fun _ x => x)
structure RSt (n : Nat) (w wr : World) (qv : Value) (r c : Nat) (g : List (List Int)) (a : Nat) (q : List Nat) (k w0 : Nat) : Prop where
  so : Own 4 BoolV (fun b => b = n) wr (.slice (some ⟨n, 0, none⟩) (r + c) (r + c)) (seenOf (r + c) q)
  qo : Own 3 IntV (Iv (n + 1) wr.heap.size) wr qv (intsN q)
  inv : QInv r c g a q k w0
  bel : Below n w wr
  lt : n < wr.heap.size
theorem RSt.add {n r c a k x u : Nat} {w wr w2 : World} {qv v2 : Value} {g : List (List Int)} {q : List Nat} (h : RSt n w wr qv r c g a q k x) (hu : q[k]? = some u) (hx : x < r + c) (he : Edge r g u x) (hn : x ∉ q) {o : Obj} (ho : Own 3 IntV (fun b => (Iv (n + 1) wr.heap.size b ∨ False ∨ ((wr.setCell ⟨n, x, none⟩ (.bool true)).alloc o).heap.size ≤ b) ∧ b < w2.heap.size) w2 v2 (intsN q ++ [(x : Int)])) (hb : Only (fun b => qv.ownBlock = some b) ((wr.setCell ⟨n, x, none⟩ (.bool true)).alloc o) w2) : RSt n w w2 v2 r c g a (q ++ [x]) k (x + 1) := by
  have o2 := h.so.setBool (k := x) (by rw [seenOf_len]; exact hx) true
  rw [seenOf_set] at o2
  have hl := h.lt
  have hz : ((wr.setCell ⟨n, x, none⟩ (.bool true)).alloc o).heap.size = wr.heap.size + 1 := by simp
  have hb1 := Below.pureAlloc (wr.setCell ⟨n, x, none⟩ (.bool true)) o
  rw [size_setCell] at hb1
  have hb2 : Below (n + 1) ((wr.setCell ⟨n, x, none⟩ (.bool true)).alloc o) w2 := hb.below (by omega) fun b hb => (h.qo.ownBlock b hb).1
  have hb3 : Below (n + 1) (wr.setCell ⟨n, x, none⟩ (.bool true)) w2 := (hb1.mono (by omega)).trans hb2
  have hs := hb2.size
  refine ⟨(rOwn rBoolV).same (sameOn_below hb3 fun b hb => by have hb : b = n := hb; omega) o2, ?_, h.inv.add hu hx he hn, (h.bel.setCell (p := ⟨n, x, none⟩) (Nat.le_refl _) _).trans (hb3.mono (Nat.le_succ _)), by omega⟩
  rw [intsN_snoc]
  refine (rOwn rIntV).mono (fun b hb => ⟨?_, hb.2⟩) ho
  rcases hb.1 with h1 | h1 | h1
  · exact h1.1
  · exact h1.elim
  · omega
def imageLineG (m : List (List Int)) : ByteArray := if imageOk m then imageLineOf m.length (m.headD []).length m else ByteArray.empty
theorem imageLineG_ok {r c : Nat} {m : List (List Int)} (h : Shape r c m) (h1 : 1 ≤ r) (h2 : r ≤ 5) (h3 : 1 ≤ c) (h4 : c ≤ 5) : imageLineG m = imageLineOf r c m := by
  unfold imageLineG
  rw [if_pos (h.ok h1 h2 h3 h4), h.1, h.head h1]
theorem ImageLine_ig (v : Value) (m : List (List Int)) (w : World) (hv : Grid w v m) (ht : Tab w) : Calls Tryz.prog 45 #[v] w fun e w' => e = .returned (.string (imageLineG m)) ∧ Below w.heap.size w w' := by
  cases hok : imageOk m
  · have Hr := Lib.hid (show imageLineG m = ByteArray.empty from by simp [imageLineG, hok])
    have Hok := Lib.hid hok; clear hok
    obtain ⟨a, cap, rfl, -⟩ := id hv
    go_enter Tryz.func45, Tryz.ntmps45
    go_wp2_with (fail)
    refine (ImageOk_i _ _ _ hv).mono ?_
    rintro e w' ⟨rfl, rfl⟩
    rw [Hok.out]
    go_wp2
    go_ret
    exact ⟨retS Hr.out.symm, Below.refl _ _⟩
  · obtain ⟨r, c, hr1, hr5, hc1, hc5, hsh⟩ := imageOk_shape hok
    rw [imageLineG_ok hsh hr1 hr5 hc1 hc5]
    exact ImageLine_i v m r c w hv hsh hr1 hr5 hc1 hc5 ht
def sumsHead (xs ys : List Int) : ByteArray := ⟨#[114, 111, 119, 115, 32]⟩ ++ sumsText xs ++ ⟨#[32, 99, 111, 108, 115, 32]⟩ ++ sumsText ys
def sumsLineOf (xs ys : List Int) : ByteArray :=
  if sumsOk xs ys then (if existsB xs ys then sumsHead xs ys ++ ⟨#[32, 105, 109, 97, 103, 101, 115, 32]⟩ ++ fmtInt (imgsOf xs ys).length
    else sumsHead xs ys ++ ⟨#[32, 110, 111, 110, 101, 58, 32, 99, 111, 108, 117, 109, 110, 115, 32]⟩ ++ fmtInt (worst xs ys))
  else sumsHead xs ys ++ ⟨#[32, 110, 111, 110, 101]⟩
structure SumsSz (A B C : ByteArray) : Prop where
  a : A.size ≤ 33554432
  b : B.size ≤ 33554432
  c : C.size ≤ 20
  l1 : (⟨#[114, 111, 119, 115, 32]⟩ ++ A : ByteArray).size ≤ 33554442
  l2 : (⟨#[114, 111, 119, 115, 32]⟩ ++ A ++ ⟨#[32, 99, 111, 108, 115, 32]⟩ : ByteArray).size ≤ 33554452
  l3 : (⟨#[114, 111, 119, 115, 32]⟩ ++ A ++ ⟨#[32, 99, 111, 108, 115, 32]⟩ ++ B : ByteArray).size ≤ 67108904
  l4 : (⟨#[114, 111, 119, 115, 32]⟩ ++ A ++ ⟨#[32, 99, 111, 108, 115, 32]⟩ ++ B ++ ⟨#[32, 110, 111, 110, 101, 58, 32, 99, 111, 108, 117, 109, 110, 115, 32]⟩ : ByteArray).size ≤ 67108934
  l5 : (⟨#[114, 111, 119, 115, 32]⟩ ++ A ++ ⟨#[32, 99, 111, 108, 115, 32]⟩ ++ B ++ ⟨#[32, 105, 109, 97, 103, 101, 115, 32]⟩ : ByteArray).size ≤ 67108934
theorem sumsSz {A B C : ByteArray} (a : A.size ≤ 33554432) (b : B.size ≤ 33554432) (c : C.size ≤ 20) : SumsSz A B C := by
  have e1 : (⟨#[114, 111, 119, 115, 32]⟩ : ByteArray).size = 5 := rfl
  have e2 : (⟨#[32, 99, 111, 108, 115, 32]⟩ : ByteArray).size = 6 := rfl
  have e3 : (⟨#[32, 110, 111, 110, 101, 58, 32, 99, 111, 108, 117, 109, 110, 115, 32]⟩ : ByteArray).size = 15 := rfl
  have e4 : (⟨#[32, 105, 109, 97, 103, 101, 115, 32]⟩ : ByteArray).size = 8 := rfl
  refine ⟨a, b, c, ?_, ?_, ?_, ?_, ?_⟩ <;> simp only [ba_append_size, e1, e2, e3, e4] <;> omega
theorem sums_size {w : World} {v : Value} {l : List Int} (h : Ints w v l) (hl : l.length ≤ 1048576) : (sumsText l).size ≤ 33554432 := by
  have := sumsText_size (ints_64 h)
  omega
theorem imgs_big {xs ys : List Int} (hok : sumsOk xs ys = true) : (imgsOf xs ys).length ≤ 1073741824 := by
  obtain ⟨x1, x5, y1, y5, -, -, -⟩ := sumsOk_bd hok
  rw [imgsOf_ok hok]
  exact Nat.le_trans (allImgs_len xs ys) (Nat.le_trans (Nat.pow_le_pow_right (by decide) (Nat.mul_le_mul x5 (Nat.succ_le_succ y5))) (by decide))
theorem SumsLine_i (v v2 : Value) (xs ys : List Int) (w : World) (hv : Ints w v xs) (hv2 : Ints w v2 ys) (hx : xs.length ≤ 1048576) (hy : ys.length ≤ 1048576) (ht : Tab w) : Calls Tryz.prog 36 #[v, v2] w fun e w' => e = .returned (.string (sumsLineOf xs ys)) ∧ Below w.heap.size w w' := by
  have Hv := Lib.hid hv
  have Hv2 := Lib.hid hv2
  have s1 := sums_size hv hx
  have s2 := sums_size hv2 hy
  have hwl := worst_le xs ys
  obtain ⟨A, hA⟩ : ∃ A, A = sumsText xs := ⟨_, rfl⟩
  obtain ⟨B, hB⟩ : ∃ B, B = sumsText ys := ⟨_, rfl⟩
  obtain ⟨Wn, hW⟩ : ∃ W, W = worst xs ys := ⟨_, rfl⟩
  rw [← hW] at hwl
  rw [← hA] at s1
  rw [← hB] at s2
  have HA := Lib.hid hA
  have HB := Lib.hid hB
  have HW := Lib.hid hW
  have HT := Lib.hid ht
  obtain ⟨a, cap, rfl, -⟩ := hv
  obtain ⟨a2, cap2, rfl, -⟩ := hv2
  clear hA hB hW ht
  cases hok : sumsOk xs ys
  · obtain ⟨za, zb, zc, z1, z2, z3, z4, z5⟩ := sumsSz (C := ByteArray.empty) s1 s2 (by decide)
    have Hr := Lib.hid (show ⟨#[114, 111, 119, 115, 32]⟩ ++ A ++ ⟨#[32, 99, 111, 108, 115, 32]⟩ ++ B ++ ⟨#[32, 110, 111, 110, 101]⟩ = sumsLineOf xs ys from by unfold sumsLineOf sumsHead; rw [if_neg (by rw [hok]; simp), HA.out, HB.out])
    have Hok := Lib.hid hok
    clear hok
    go_enter Tryz.func36, Tryz.ntmps36
    go_wp2_with (fail)
    refine (FormatSums_i _ xs _ Hv.out (by omega) HT.out).mono ?_
    rintro e w1 ⟨rfl, b1⟩
    rw [← HA.out]
    go_wp2_with (fail)
    refine (FormatSums_i _ ys _ (Hv2.out.keep b1) (by omega) (HT.out.keep b1)).mono ?_
    rintro e w2 ⟨rfl, b2⟩
    rw [← HB.out]
    have bb2 := b1.trans_pure b2 (Nat.le_refl _)
    go_wp2_with (fail)
    refine (SumsOk_i _ _ _ _ _ (Hv.out.keep bb2) (Hv2.out.keep bb2)).mono ?_
    rintro e w' ⟨rfl, rfl⟩
    rw [Hok.out]
    go_wp2
    go_ret
    exact ⟨retS Hr.out, bb2⟩
  have himg := imgs_big hok
  rw [imgsOf_ok hok] at himg
  obtain ⟨x1, x5, y1, y5, -, -, -⟩ := sumsOk_bd hok
  obtain ⟨Cn, hC⟩ : ∃ C, C = (allImgs xs ys).length := ⟨_, rfl⟩
  rw [← hC] at himg
  have HC := Lib.hid hC
  have Hio := Lib.hid (imgsOf_ok hok)
  have Hok := Lib.hid hok
  clear hC
  cases hex : existsB xs ys
  · obtain ⟨za, zb, zc, z1, z2, z3, z4, z5⟩ := sumsSz (C := fmtInt Wn) s1 s2 (fmt_size (by omega))
    have Hr := Lib.hid (show ⟨#[114, 111, 119, 115, 32]⟩ ++ A ++ ⟨#[32, 99, 111, 108, 115, 32]⟩ ++ B ++ ⟨#[32, 110, 111, 110, 101, 58, 32, 99, 111, 108, 117, 109, 110, 115, 32]⟩ ++ fmtInt Wn = sumsLineOf xs ys from by unfold sumsLineOf sumsHead; rw [if_pos hok, if_neg (by rw [hex]; simp), HA.out, HB.out, HW.out])
    have Hex := Lib.hid hex
    clear hok hex
    go_enter Tryz.func36, Tryz.ntmps36
    go_wp2_with (fail)
    refine (FormatSums_i _ xs _ Hv.out (by omega) HT.out).mono ?_
    rintro e w1 ⟨rfl, b1⟩
    rw [← HA.out]
    go_wp2_with (fail)
    refine (FormatSums_i _ ys _ (Hv2.out.keep b1) (by omega) (HT.out.keep b1)).mono ?_
    rintro e w2 ⟨rfl, b2⟩
    rw [← HB.out]
    have bb2 := b1.trans_pure b2 (Nat.le_refl _)
    go_wp2_with (fail)
    refine (SumsOk_i _ _ _ _ _ (Hv.out.keep bb2) (Hv2.out.keep bb2)).mono ?_
    rintro e w' ⟨rfl, rfl⟩
    rw [Hok.out]
    go_wp2_with (fail)
    refine (Exists_i _ _ _ _ _ (Hv.out.keep bb2) (Hv2.out.keep bb2)).mono ?_
    rintro e w3 ⟨rfl, b3⟩
    rw [Hex.out]
    have bb3 := bb2.trans_pure b3 (Nat.le_refl _)
    go_wp2_with (fail)
    refine (WorstColumns_i _ _ _ _ _ (Hv.out.keep bb3) (Hv2.out.keep bb3)).mono ?_
    rintro e w4 ⟨rfl, b4⟩
    rw [← HW.out]
    have bb4 := bb3.trans_pure b4 (Nat.le_refl _)
    go_wp2_with (fail)
    refine (FormatInt_i _ (I64.small (by omega) (by omega)) _ (HT.out.keep bb4)).mono ?_
    rintro e w5 ⟨rfl, b5⟩
    have bb5 := bb4.trans_pure b5 (Nat.le_refl _)
    go_wp2
    go_ret
    exact ⟨retS Hr.out, bb5⟩
  · obtain ⟨za, zb, zc, z1, z2, z3, z4, z5⟩ := sumsSz (C := fmtInt Cn) s1 s2 (fmt_size (by omega))
    have Hr := Lib.hid (show ⟨#[114, 111, 119, 115, 32]⟩ ++ A ++ ⟨#[32, 99, 111, 108, 115, 32]⟩ ++ B ++ ⟨#[32, 105, 109, 97, 103, 101, 115, 32]⟩ ++ fmtInt Cn = sumsLineOf xs ys from by unfold sumsLineOf sumsHead; rw [if_pos hok, if_pos hex, HA.out, HB.out, HC.out, Hio.out])
    have Hex := Lib.hid hex
    clear hok hex
    go_enter Tryz.func36, Tryz.ntmps36
    go_wp2_with (fail)
    refine (FormatSums_i _ xs _ Hv.out (by omega) HT.out).mono ?_
    rintro e w1 ⟨rfl, b1⟩
    rw [← HA.out]
    go_wp2_with (fail)
    refine (FormatSums_i _ ys _ (Hv2.out.keep b1) (by omega) (HT.out.keep b1)).mono ?_
    rintro e w2 ⟨rfl, b2⟩
    rw [← HB.out]
    have bb2 := b1.trans_pure b2 (Nat.le_refl _)
    go_wp2_with (fail)
    refine (SumsOk_i _ _ _ _ _ (Hv.out.keep bb2) (Hv2.out.keep bb2)).mono ?_
    rintro e w' ⟨rfl, rfl⟩
    rw [Hok.out]
    go_wp2_with (fail)
    refine (Exists_i _ _ _ _ _ (Hv.out.keep bb2) (Hv2.out.keep bb2)).mono ?_
    rintro e w3 ⟨rfl, b3⟩
    rw [Hex.out]
    have bb3 := bb2.trans_pure b3 (Nat.le_refl _)
    go_wp2_with (fail)
    refine (CountImages_i _ _ _ _ _ (Hv.out.keep bb3) (Hv2.out.keep bb3) Hok.out).mono ?_
    rintro e w4 ⟨rfl, b4⟩
    rw [← HC.out]
    have bb4 := bb3.trans_pure b4 (Nat.le_refl _)
    go_wp2_with (fail)
    refine (FormatInt_i _ (I64.small (by omega) (by omega)) _ (HT.out.keep bb4)).mono ?_
    rintro e w5 ⟨rfl, b5⟩
    have bb5 := bb4.trans_pure b5 (Nat.le_refl _)
    go_wp2
    go_ret
    exact ⟨retS Hr.out, bb5⟩
end Go.Proofs.YthmocomfjgmjoaaGreatDoor

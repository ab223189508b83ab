/- Contracts and plain laws that the claims on sessions use. No condition of their own. -/
import Derived.Test.YthmocomfjgmjoaaGreatDoorQ17
import Derived.Test.YthmocomfjgmjoaaGreatDoorQ04
import Derived.Deep.RegionWith
import Derived.Carry
set_option maxHeartbeats 6400000
set_option maxRecDepth 100000
namespace Go.Proofs.YthmocomfjgmjoaaGreatDoor
open Go.RowKit
def farOf (r c : Nat) (acc : List Node) (k : Nat) : Option Nat := (acc.find? fun e => decide (keyOfImg r c e.1 = k)).map fun e => e.2.length
theorem far_any {r c : Nat} (hc : 1 ≤ c) {acc : List Node} (hsh : ∀ e ∈ acc, Shape r c e.1) {g : List (List Int)} (hg : Shape r c g) : (farOf r c acc (keyOfImg r c g)).isSome = acc.any fun x => decide (x.1 = g) := by
  unfold farOf
  rw [Option.isSome_map, Bool.eq_iff_iff, List.find?_isSome]
  simp only [List.any_eq_true, decide_eq_true_eq]
  constructor
  · rintro ⟨e, he, hk⟩
    exact ⟨e, he, keyOfImg_inj hc (hsh e he) hg hk⟩
  · rintro ⟨e, he, hk⟩
    exact ⟨e, he, by rw [hk]⟩
theorem far_in {r c : Nat} (hc : 1 ≤ c) {acc : List Node} (hsh : ∀ e ∈ acc, Shape r c e.1) (hnd : acc.Pairwise (fun a b => a.1 ≠ b.1)) {e : Node} (he : e ∈ acc) : farOf r c acc (keyOfImg r c e.1) = some e.2.length := by
  unfold farOf
  cases hf : acc.find? fun x => decide (keyOfImg r c x.1 = keyOfImg r c e.1) with
  | none =>
    have := List.find?_eq_none.1 hf e he
    simp at this
  | some x =>
    have h1 := List.mem_of_find?_eq_some hf
    have h2 := List.find?_some hf
    rw [decide_eq_true_eq] at h2
    have h3 := keyOfImg_inj hc (hsh x h1) (hsh e he) h2
    have h4 : x = e := by
      obtain ⟨i, hi, rfl⟩ := List.getElem_of_mem h1
      obtain ⟨j, hj, rfl⟩ := List.getElem_of_mem he
      rcases Nat.lt_trichotomy i j with h | rfl | h
      · exact absurd h3 (List.pairwise_iff_getElem.1 hnd i j hi hj h)
      · rfl
      · exact absurd h3.symm (List.pairwise_iff_getElem.1 hnd j i hj hi h)
    rw [h4]; rfl
theorem far_push {r c : Nat} (hc : 1 ≤ c) {acc : List Node} (hsh : ∀ e ∈ acc, Shape r c e.1) {e : Node} (he : Shape r c e.1) (hn : (acc.any fun x => decide (x.1 = e.1)) = false) : farOf r c (acc ++ [e]) = putF (farOf r c acc) (keyOfImg r c e.1) e.2.length := by
  funext k
  unfold putF
  by_cases h : k = keyOfImg r c e.1
  · subst h
    rw [if_pos rfl]
    have h1 := far_any hc hsh he
    rw [hn] at h1
    unfold farOf at h1 ⊢
    rw [List.find?_append]
    cases hf : acc.find? fun x => decide (keyOfImg r c x.1 = keyOfImg r c e.1) with
    | none => simp
    | some x => rw [hf] at h1; simp at h1
  · rw [if_neg h]
    unfold farOf
    rw [List.find?_append]
    cases hf : acc.find? fun x => decide (keyOfImg r c x.1 = k) with
    | none =>
      have : decide (keyOfImg r c e.1 = k) = false := decide_eq_false (fun h2 => h h2.symm)
      simp [this]
    | some x => simp
theorem key_small {r c : Nat} {g : List (List Int)} (h : Shape r c g) (hr : r ≤ 5) (hc : c ≤ 5) : keyOfImg r c g < 1073741824 := by
  have h1 := keyOfImg_lt h
  have h2 : 2 ^ (r * c) ≤ 2 ^ 25 := Nat.pow_le_pow_right (by decide) (Nat.mul_le_mul hr hc)
  have h3 : (2 : Nat) ^ 25 = 33554432 := by decide
  omega
theorem infoGridP : (Tryz.prog.info? 31).map (fun i => (i.zero, i.size, i.bytes)) = some (some (.slice none 0 0), 1, 24) := by kernel_rfl
structure SrchOk (r c : Nat) (m t : List (List Int)) (NB : Nat) : Prop where
  hm : Shape r c m
  ht : Shape r c t
  hr1 : 1 ≤ r
  hr4 : r ≤ 4
  hc1 : 1 ≤ c
  hc4 : c ≤ 4
  nb : NB ≤ 33554432
  sums : Sums (rowSumsOf m) (colSumsOf m) r c m
  sumt : Sums (rowSumsOf m) (colSumsOf m) r c t
  boundI : ∀ j acc, BInv r c t j acc → acc.length ≤ NB
  boundM : ∀ j e0 ss acc, BMid r c t j e0 ss acc → acc.length ≤ NB
theorem srch_ok {r c : Nat} {m t : List (List Int)} (hm : Shape r c m) (ht : Shape r c t) (hr1 : 1 ≤ r) (hr4 : r ≤ 4) (hc1 : 1 ≤ c) (hc4 : c ≤ 4) (e1 : rowSumsOf m = rowSumsOf t) (e2 : colSumsOf m = colSumsOf t) : ∃ NB, SrchOk r c m t NB := by
  have hS := sums_of_image hm hr1 (by omega) hc1 (by omega)
  have hT := sums_of_image ht hr1 (by omega) hc1 (by omega)
  rw [← e1, ← e2] at hT
  have hrl := (rowSumsOf_wf hm hr1 (by omega) hc1 (by omega)).1
  have hcl := (colSumsOf_wf hm hr1 (by omega) hc1 (by omega)).1
  have hok : sumsOk (rowSumsOf m) (colSumsOf m) = true := sumsOk_of (by omega) (by omega) (by omega) (by omega) (by rw [hrl, hcl]; exact hS)
  have hlen := allImgs_len (rowSumsOf m) (colSumsOf m)
  refine ⟨(allImgs (rowSumsOf m) (colSumsOf m)).length, hm, ht, hr1, hr4, hc1, hc4, ?_, hS, hT, fun j acc h => ?_, fun j e0 ss acc h => ?_⟩
  · rw [hrl, hcl] at hlen
    exact Nat.le_trans hlen (Nat.le_trans (Nat.pow_le_pow_right (by decide) (Nat.mul_le_mul hr4 (Nat.succ_le_succ hc4))) (by decide))
  · exact BInv.bound (m := t) (j := j) hok (by rw [hrl, hcl]; exact hT) (by rw [hrl, hcl]; exact h)
  · exact BMid.bound (m := t) (j := j) (e0 := e0) (ss := ss) hok (by rw [hrl, hcl]; exact hT) (by rw [hrl, hcl]; exact h)
theorem acc_shape {r c : Nat} {t : List (List Int)} (ht : Shape r c t) {acc : List Node} (h : ∀ e ∈ acc, IsPath r c t e.2 e.1) : ∀ e ∈ acc, Shape r c e.1 := fun e he => (h e he).shape ht
structure QSt (w wr : World) (qv : Value) (b n : Nat) (gs : List (List (List Int))) (f : Nat → Option Nat) : Prop where
  q : ImgL w.heap.size (fun x => x = b) wr qv gs
  map : FarM wr b n f
  bel : Below w.heap.size w wr
  nb : w.heap.size ≤ b
theorem QSt.pure {w wr w' : World} {qv : Value} {b n : Nat} {gs : List (List (List Int))} {f : Nat → Option Nat} (h : QSt w wr qv b n gs f) (hb : Below wr.heap.size wr w') : QSt w w' qv b n gs f :=
  ⟨h.q.pure hb, h.map.pure hb, h.bel.trans_pure hb (Nat.le_refl _), h.nb⟩
theorem QSt.shape {w wr : World} {qv : Value} {b n : Nat} {gs : List (List (List Int))} {f : Nat → Option Nat} (h : QSt w wr qv b n gs f) : ∃ a k c, qv = .slice a k c ∧ k = gs.length := by
  obtain ⟨a, c, h⟩ := h.q.shape
  exact ⟨a, _, c, h, rfl⟩
theorem ImgL.start {n0 : Nat} {X : Bk} {w2 : World} {u : Value} {t : List (List Int)} (hu : Img n0 w2 u t) (h1 : u.oneCell' = true) (hn : n0 ≤ w2.heap.size) (hX : ∀ x, w2.heap.size ≤ x → ¬ X x) : ImgL n0 X (w2.alloc (.cells #[u] 31)) (.slice (some ⟨w2.heap.size, 0, none⟩) 1 1) [t] := by
  have hb := Below.pureAlloc w2 (.cells #[u] 31)
  have hh : (w2.alloc (.cells #[u] 31)).heap[w2.heap.size]? = some (.cells #[u] 31 (0, 0)) := Blk.new w2 #[u] 31
  refine ⟨[u], .inr ⟨w2.heap.size, #[u], rfl, ⟨hn, hX _ (Nat.le_refl _), by simp⟩, hh, by simp, by simp [maxLen], by simp, fun _ _ => False, fun _ _ h => h.elim, fun _ _ _ h => h.elim, fun k x hk => ?_⟩, rfl, fun k v g hk hg => ?_⟩
  · cases k with
    | zero => simp at hk; subst hk; exact ⟨u, rfl, rfl, h1⟩
    | succ k => simp at hk
  · cases k with
    | zero => simp at hk hg; subst hk; subst hg; exact hu.pure hb
    | succ k => simp at hk
theorem ImgL.push {n0 : Nat} {X : Bk} {wz w' : World} {qv v' u : Value} {us : List Value} {g : List (List Int)} {gs : List (List (List Int))} (h2 : us.length = gs.length) (h3 : ∀ (k : Nat) (u : Value) (g : List (List Int)), us[k]? = some u → gs[k]? = some g → Img n0 wz u g) (hq : ∀ x, qv.ownBlock = some x → ¬ ImgS n0 wz x) (hu : Img n0 wz u g)
    (hown : Own 31 AnyV (fun b => (n0 ≤ b ∧ ¬ X b) ∧ b < w'.heap.size) w' v' (us ++ [u])) (ho : Only (fun b => qv.ownBlock = some b) wz w') : ImgL n0 X w' v' (gs ++ [g]) := by
  refine ⟨us ++ [u], (rOwn rAnyV).mono (fun x hx => ⟨hx.1.1, hx.1.2, hx.2⟩) hown, by rw [List.length_append, List.length_append, h2]; rfl, fun k v x hk hx => ?_⟩
  by_cases hlt : k < us.length
  · rw [List.getElem?_append_left hlt] at hk
    rw [List.getElem?_append_left (by omega)] at hx
    exact (h3 k v x hk hx).only ho hq
  · have hk0 : k = us.length := by
      have := (List.getElem?_eq_some_iff.1 hk).1
      rw [List.length_append, List.length_singleton] at this
      omega
    subst hk0
    rw [List.getElem?_append_right (Nat.le_refl _), Nat.sub_self] at hk
    rw [List.getElem?_append_right (by omega), show us.length - gs.length = 0 from by omega] at hx
    simp at hk hx
    subst hk; subst hx
    exact hu.only ho hq
theorem far_all {r c NB j : Nat} {m t : List (List Int)} {acc : List Node} (hok : SrchOk r c m t NB) (hbi : BInv r c t j acc) (hend : acc.length ≤ j) : ∀ g, Sums (rowSumsOf m) (colSumsOf m) r c g → ∃ n, farOf r c acc (keyOfImg r c g) = some n ∧ Far r c t g n ∧ n ≤ NB := fun g hg => by
  obtain ⟨e, he, rfl⟩ := hbi.found hend hok.sumt hg
  obtain ⟨i, hi, rfl⟩ := List.getElem_of_mem he
  refine ⟨_, far_in hok.hc1 (acc_shape hok.ht hbi.path) hbi.nodup he, (hbi.least hend he).far, ?_⟩
  have h1 := hbi.len i _ (List.getElem?_eq_getElem hi)
  have h2 := hok.boundI _ _ hbi
  omega
def lenV : Value → Nat
  | .slice _ n _ => n
  | _ => 0
theorem OwnSw.not_img {n0 : Nat} {w : World} {v : Value} {l : List Sw} (h : OwnSw n0 w v l) : ∀ x, v.ownBlock = some x → ¬ ImgS n0 w x := by
  intro x hx
  obtain ⟨-, ⟨rfl, -⟩ | ⟨g, cap, cur, rfl, hB, hh, -⟩⟩ := id h
  · simp [Value.ownBlock] at hx
  · simp [Value.ownBlock] at hx
    subst hx
    exact Go.Proofs.YthmocomfjgmjoaaGreatDoor.not_img hB hh (by decide) (by decide)
theorem down_end {r c NB : Nat} {m t g : List (List Int)} {acc : List Node} {p : List Sw} {j : Nat} (hok : SrchOk r c m t NB) (hbi : BInv r c t j acc) (hend : acc.length ≤ j) (h : ∀ q, Down r c t g q → Down r c t m (p ++ q)) (hf : Far r c t g 0) : Least r c m t p := by
  have e := far_zero hf
  subst e
  have hd := h [] .done
  rw [List.append_nil] at hd
  have h1 := hok.hr4
  have h2 := hok.hc4
  refine Down.least (by omega) (by omega) hok.hm hok.ht (fun x hx ⟨q, hq⟩ => ?_) hd
  have hs := (IsPath.rev hq hx).sums hok.sumt
  obtain ⟨k, -, hk, -⟩ := far_all hok hbi hend x hs
  exact ⟨k, hk⟩
theorem PathTo_t (v v2 : Value) (m t : List (List Int)) (r c : Nat) (w : World) (hv : Grid w v m) (hv2 : Grid w v2 t) (hs : Shape r c m) (hs2 : Shape r c t) (hr1 : 1 ≤ r) (hr4 : r ≤ 4) (hc1 : 1 ≤ c) (hc4 : c ≤ 4) (e1 : rowSumsOf m = rowSumsOf t) (e2 : colSumsOf m = colSumsOf t) :
    Calls Tryz.prog 96 #[v, v2] w fun e w' => ∃ v' W, e = .returned (.tuple #[v', .bool true]) ∧ Least r c m t W ∧ W.length ≤ 33554432 ∧ OwnSw w.heap.size w' v' W ∧ Below w.heap.size w w' := by
  have hr5 : r ≤ 5 := by omega
  have hc5 : c ≤ 5 := by omega
  obtain ⟨NB, hok⟩ := srch_ok hs hs2 hr1 hr4 hc1 hc4 e1 e2
  have Hok := Lib.hid hok
  have hnb := hok.nb
  have E1 := Lib.hid e1
  have E2 := Lib.hid e2
  obtain ⟨b, off, cp, rfl, hb, hm⟩ := hv.rowsT hs.trectM hr1 hc1
  obtain ⟨b0, o0, c0, hc0, -⟩ := hm 0 (by omega)
  obtain ⟨b', off2, cp2, rfl, hb2, -⟩ := hv2.rowsT hs2.trectM hr1 hc1
  have Hv := Lib.hid hv
  have Hv2 := Lib.hid hv2
  have HIt := Lib.hid (Img.of_grid hv2 (Nat.le_refl _))
  have HIm := Lib.hid (Img.of_grid hv (Nat.le_refl _))
  have hkt := key_small hs2 hr5 hc5
  obtain ⟨KT, hKT⟩ : ∃ KT, KT = keyOfImg r c t := ⟨_, rfl⟩
  have HKT := Lib.hid hKT
  rw [← hKT] at hkt
  have h4r : ¬ (4 : Int) < (r : Int) := by omega
  have h4c : ¬ (4 : Int) < (c : Int) := by omega
  have Hc0 := Lib.hid hc0
  clear hok e1 e2 hv hv2 hm hKT hc0
  have hmm := @run_makeMap Tryz.prog
  go_enter Tryz.func96, Tryz.ntmps96
  go_wp2_with (fail)
  refine (SameSums_t _ _ m t r c _ Hv.out Hv2.out hs hs2 hr1 hr5 hc1 hc5 E1.out E2.out).mono ?_
  rintro e w1 ⟨rfl, b1⟩
  have hc0 := Hc0.out w1 b1
  rw [Nat.add_zero] at hc0
  have Hb1a := Lib.hid (Below.pureAlloc w1 (.map #[] 0))
  go_wp2_with (fail)
  refine (keyOf_c _ t r c _ ((Hv2.out.keep b1).keep Hb1a.out) hs2 hr1 hr5 hc1 hc5).mono ?_
  rintro e w' ⟨rfl, rfl⟩
  rw [← HKT.out]
  obtain ⟨w2, hrun2, hf2, ho2⟩ := (FarM.made w1).store (v := 0) hkt (by omega) (by omega)
  have Hf2 := Lib.hid hf2
  have Ho2 := Lib.hid ho2
  rw [show ((0 : Nat) : Int) = 0 from rfl] at hrun2
  have hb2w := b1.trans_pure Hb1a.out (Nat.le_refl _)
  have hs1 := b1.size
  have Hb2 := Lib.hid (show Below w.heap.size w w2 from hb2w.trans (Ho2.out.below (Nat.le_trans hs1 (by simp)) fun x hx => by have hx : x = w1.heap.size := hx; omega))
  have hs2' : w1.heap.size < w2.heap.size := Nat.lt_of_lt_of_le (by simp) Ho2.out.size
  have HI2 := Lib.hid (show Img w.heap.size w2 (.slice (some ⟨b', off2, none⟩) r cp2) t from (HIt.out.pure hb2w).only Ho2.out fun x hx => by
    have hx : x = w1.heap.size := hx
    subst hx
    exact not_img_map hs1 (FarM.made w1))
  have Hst0 := Lib.hid (show QSt w (w2.alloc (.cells #[.slice (some ⟨b', off2, none⟩) r cp2] 31)) (.slice (some ⟨w2.heap.size, 0, none⟩) 1 1) w1.heap.size 1 [t] (farOf r c [(t, [])]) from
    ⟨ImgL.start HI2.out rfl Hb2.out.size (fun x hx e => by have e : x = w1.heap.size := e; omega), by
      have e : farOf r c [(t, ([] : List Sw))] = putF (fun _ => none) KT 0 := by
        have h := far_push (r := r) (c := c) hc1 (acc := []) (e := (t, [])) (by simp) hs2 rfl
        rw [List.nil_append] at h
        rw [h, HKT.out]; rfl
      rw [e]
      exact Hf2.out.pure (Below.pureAlloc _ _), Hb2.out.trans_pure (Below.pureAlloc _ _) (Nat.le_refl _), hs1⟩)
  have Hbi0 := Lib.hid (binv_start r c t)
  obtain ⟨bm, hbm⟩ : ∃ bm, bm = w1.heap.size := ⟨_, rfl⟩
  rw [← hbm] at Hst0
  have Hbm := Lib.hid hbm
  have hwb : w.heap.size ≤ bm := by omega
  have hd4r : decide ((4 : Int) < (r : Int)) = false := by rw [decide_eq_false_iff_not]; omega
  have hd4c : decide ((4 : Int) < (c : Int)) = false := by rw [decide_eq_false_iff_not]; omega
  clear hc0 hf2 ho2 hb2w hs2' hbm
  go_wp2
  rw [← Hbm.out]
  go_loopw [7, 8, 10, 11, 12, 13, 14] (fun qv iv _ _ _ _ _ wr => ∃ (j : Nat) (acc : List Node), j ≤ NB ∧ iv = .int .i64 j ∧ Hid (BInv r c t j acc) ∧ Hid (QSt w wr qv bm acc.length (acc.map Prod.fst) (farOf r c acc))) (fun _ iv _ _ _ _ _ _ => NB + 1 - (intOf iv).toNat)
  case atStart => exact ⟨0, [(t, [])], Nat.zero_le _, rfl, Hbi0, Hst0⟩
  case round =>
    clear Hbi0 Hst0
    obtain ⟨j, acc, hj, rfl, Hbi, Hst⟩ := hrel
    obtain ⟨wo, rfl⟩ : ∃ wo : World, wo = wr := ⟨_, rfl⟩
    obtain ⟨qa, L, qc, rfl, hL⟩ := Hst.out.shape
    rw [List.length_map] at hL
    have hbmo := Hst.out.map.lt
    have hLn : L ≤ NB := by rw [hL]; exact Hok.out.boundI _ _ Hbi.out
    have HL := Lib.hid hL
    clear hL
    by_cases hlt : j < L
    · obtain ⟨e0, he0⟩ : ∃ e0, acc[j]? = some e0 := ⟨_, List.getElem?_eq_getElem (by rw [← HL.out]; exact hlt)⟩
      have hsh0 := acc_shape hs2 Hbi.out.path e0 (List.mem_of_getElem? he0)
      have hgs0 : (acc.map Prod.fst)[j]? = some e0.1 := by rw [List.getElem?_map, he0]; rfl
      obtain ⟨qb, qc', u, he, hqb, hcu, hiu⟩ := Hst.out.q.at hgs0
      obtain ⟨rfl, -⟩ : qa = some ⟨qb, 0, none⟩ ∧ qc = qc' := by
        simp only [Value.slice.injEq] at he
        exact ⟨he.1, he.2.2⟩
      have Hiu := Lib.hid hiu
      obtain ⟨ua, uc, rfl, -⟩ := hiu.grid
      have Hmid := Lib.hid (Hbi.out.mid he0)
      have hjN : j + 1 ≤ NB := by omega
      have Hmem := Lib.hid (show ∀ s ∈ switchesOf r c e0.1, SwOk r c e0.1 s from fun s hs => switchesOf_mem.1 hs)
      have hssl := switchesOf_len4 hr4 hc4 e0.1
      have Hsrt := Lib.hid (switchesOf_sorted hr5 hc5 e0.1)
      obtain ⟨ss, hss⟩ : ∃ ss, ss = switchesOf r c e0.1 := ⟨_, rfl⟩
      rw [← hss] at Hmem hssl Hsrt
      have Hss := Lib.hid hss
      clear he he0 hiu hgs0 hss
      go_wp2_with (fail)
      refine (SwitchesOf_i _ e0.1 r c _ Hiu.out.grid hsh0 hr1 hr5 hc1 hc5).mono ?_
      rintro e wS ⟨vs, rfl, oS, bS⟩
      rw [← Hss.out] at oS
      have HSw := Lib.hid (show 0 < ss.length → ∃ g cap, vs = .slice (some ⟨g, 0, none⟩) ss.length cap ∧ wo.heap.size ≤ g ∧ SwBlk wS g ss from fun h => oS.blk h)
      obtain ⟨sa, sc, rfl⟩ := oS.shape
      obtain ⟨N, hN⟩ : ∃ N, N = ss.length := ⟨_, rfl⟩
      rw [← hN] at hssl HSw ⊢
      have HN := Lib.hid hN
      have HstS := Lib.hid (Hst.out.pure bS)
      have hqbS : qb < wS.heap.size := Nat.lt_of_lt_of_le hqb bS.size
      clear hN oS
      go_wp2
      clear hcu
      go_loopw [7, 10, 11, 12, 13, 14, 55] (fun qv _ _ _ _ _ i wr => ∃ (k : Nat) (acc : List Node), k ≤ N ∧ i = .int .i64 k ∧ Hid (BMid r c t j e0 (ss.take k) acc) ∧ Hid (QSt w wr qv bm acc.length (acc.map Prod.fst) (farOf r c acc)) ∧ Hid (∀ g, wo.heap.size ≤ g → SwBlk wS g ss → SwBlk wr g ss)) (fun _ _ _ _ _ _ i _ => N - (intOf i).toNat)
      case atStart => exact ⟨0, acc, Nat.zero_le _, rfl, Hmid, HstS, Lib.hid fun _ _ h => h⟩
      case round =>
        clear Hmid HstS Hst Hbi HL hlt Hiu
        obtain ⟨k, acc, hk, rfl, Hmid, Hst, Hkeep⟩ := hrel
        obtain ⟨wi, rfl⟩ : ∃ wi : World, wi = wr := ⟨_, rfl⟩
        obtain ⟨qa, L, qc, rfl, hL⟩ := Hst.out.shape
        rw [List.length_map] at hL
        have hLn : L ≤ NB := by rw [hL]; exact Hok.out.boundM _ _ _ _ Hmid.out
        have HL := Lib.hid hL
        clear hL
        by_cases hltk : k < N
        · obtain ⟨sp, hsp⟩ : ∃ sp, ss[k]? = some sp := ⟨_, List.getElem?_eq_getElem (by rw [← HN.out]; exact hltk)⟩
          have hsok := Hmem.out sp (List.mem_of_getElem? hsp)
          obtain ⟨g, cap, he, hg1, hblk⟩ := HSw.out (by omega)
          obtain ⟨rfl, -⟩ : sa = some ⟨g, 0, none⟩ ∧ sc = cap := by
            simp only [Value.slice.injEq] at he
            exact ⟨he.1, he.2.2⟩
          have hblk := Hkeep.out g hg1 hblk
          have hgl := hblk.lt
          have c0 := hblk.cells hsp (j := 0) (u := .int .i64 sp.1) rfl
          have c1 := hblk.cells hsp (j := 1) (u := .int .i64 sp.2.1) rfl
          have c2 := hblk.cells hsp (j := 2) (u := .int .i64 sp.2.2.1) rfl
          have c3 := hblk.cells hsp (j := 3) (u := .int .i64 sp.2.2.2) rfl
          rw [Nat.add_zero] at c0
          have Hblk := Lib.hid hblk
          have hgs0 : (acc.map Prod.fst)[j]? = some e0.1 := by rw [List.getElem?_map, Hmid.out.at0]; rfl
          have hjL : j < L := by
            have := (List.getElem?_eq_some_iff.1 hgs0).1
            rw [List.length_map] at this
            rw [HL.out]; exact this
          obtain ⟨qb, qc', u, he2, hqb, hcu, hiu⟩ := Hst.out.q.at hgs0
          obtain ⟨rfl, -⟩ : qa = some ⟨qb, 0, none⟩ ∧ qc = qc' := by
            simp only [Value.slice.injEq] at he2
            exact ⟨he2.1, he2.2.2⟩
          have Hiu := Lib.hid hiu
          obtain ⟨ua, uc, rfl, -⟩ := hiu.grid
          have HU := Lib.hid (show ∀ w', Below wi.heap.size wi w' → Grid w' _ e0.1 from fun w' hb => (Hiu.out.pure hb).grid)
          have Hbox := Lib.hid (Below.pureAlloc wi (.cells (swC sp).toArray 65))
          have hshx := applyS_shape hsh0 hsok
          have hkx := key_small hshx hr5 hc5
          have hk0 := key_small hsh0 hr5 hc5
          obtain ⟨KX, hKX⟩ : ∃ KX, KX = keyOfImg r c (applyS e0.1 sp) := ⟨_, rfl⟩
          obtain ⟨K0, hK0⟩ : ∃ K0, K0 = keyOfImg r c e0.1 := ⟨_, rfl⟩
          rw [← hKX] at hkx
          rw [← hK0] at hk0
          have HKX := Lib.hid hKX
          have HK0 := Lib.hid hK0
          have Hsok := Lib.hid hsok
          have Hsp := Lib.hid hsp
          clear he he2 hiu hblk hgs0 hsok hsp hKX hK0
          go_wp2
          go_region_with (go_at_call 37; refine (ApplySwitch_t _ e0.1 r c sp _ (HU.out _ (by exact ⟨Hbox.out.os, Hbox.out.tape, Hbox.out.output, Hbox.out.size, Hbox.out.block⟩)) hsh0 hr1 hr5 hc1 hc5 Hsok.out).mono ?_; rintro e u1 ⟨x1, rfl, q1, d1⟩)
          all_goals
            have hd : Below wi.heap.size wi u1 := Hbox.out.trans_pure (by exact ⟨d1.os, d1.tape, d1.output, d1.size, d1.block⟩) (Nat.le_refl _)
            have Hst1 := Lib.hid (Hst.out.pure hd)
            have HX := Lib.hid (show Img w.heap.size u1 x1 (applyS e0.1 sp) from Img.of_own q1)
            obtain ⟨xa, xn, xc, rfl⟩ := q1.shape
            have Hkeep1 := Lib.hid (show ∀ g, wo.heap.size ≤ g → SwBlk wS g ss → SwBlk u1 g ss from fun g h1 h2 => (Hkeep.out g h1 h2).pure hd)
            have HU1 := Lib.hid (Hiu.out.pure hd)
            have hacc := acc_shape hs2 Hmid.out.path
            have Hacc := Lib.hid hacc
            obtain ⟨sn, hsn⟩ : ∃ sn, sn = acc.any (fun x => decide (x.1 = applyS e0.1 sp)) := ⟨_, rfl⟩
            have Hsn := Lib.hid hsn
            have hlk := Hst1.out.map.look_ok hkx
            rw [show (farOf r c acc KX).isSome = sn from by rw [HKX.out, hsn]; exact far_any hc1 hacc hshx] at hlk
            obtain ⟨FV, hFV⟩ : ∃ FV, FV = (farOf r c acc KX).getD 0 := ⟨_, rfl⟩
            rw [← hFV] at hlk
            have Hstep := Lib.hid (show BMid r c t j e0 (ss.take (k + 1)) (proc1 e0 acc sp) from by
              rw [List.take_add_one, Hsp.out]
              refine Hmid.out.step Hsok.out fun s1 hs1 => ?_
              obtain ⟨i, hi, e⟩ := List.getElem_of_mem hs1
              rw [List.getElem_take] at e
              rw [List.length_take] at hi
              obtain ⟨hk1, hk2⟩ := List.getElem?_eq_some_iff.1 Hsp.out
              have := List.pairwise_iff_getElem.1 Hsrt.out i k (by omega) hk1 (by omega)
              rw [e, hk2] at this
              exact this)
            have hu1 := hd.size
            have hcu1 := (hd.cell (p := ⟨qb, j, none⟩) hqb).trans hcu
            have hqb1 : qb < u1.heap.size := by omega
            clear hsn hFV hacc q1 d1 hd c0 c1 c2 c3
            go_wp2_with (fail)
            refine (keyOf_c _ (applyS e0.1 sp) r c _ HX.out.grid hshx hr1 hr5 hc1 hc5).mono ?_
            rintro e w' ⟨rfl, rfl⟩
            rw [← HKX.out]
            cases sn
            · have he0m : e0 ∈ acc := List.mem_of_getElem? Hmid.out.at0
              have hfe : farOf r c acc K0 = some e0.2.length := by rw [HK0.out]; exact far_in hc1 Hacc.out Hmid.out.nodup he0m
              have hP0 := Hmid.out.len j e0 Hmid.out.at0
              obtain ⟨P0, hP0e⟩ : ∃ P0, P0 = e0.2.length := ⟨_, rfl⟩
              rw [← hP0e] at hfe hP0
              have HP0 := Lib.hid hP0e
              have HFd := Lib.hid (show FarM u1.drew bm acc.length (farOf r c acc) from Hst1.out.map.same rfl)
              have hlk0 := HFd.out.look hk0
              rw [hfe, Option.getD_some] at hlk0
              obtain ⟨w4, hst4, hf4, ho4⟩ := HFd.out.store (v := P0 + 1) hkx (by omega) (by rw [← HL.out]; omega)
              rw [show ((P0 + 1 : Nat) : Int) = (P0 : Int) + 1 from rfl] at hst4
              have hwk : IntKind.i64.wrap ((P0 : Int) + 1) = (P0 : Int) + 1 := by rw [IntKind.wrap_i64]; omega
              have Hf4 := Lib.hid hf4
              have HO4 := Lib.hid (show Only (fun x => x = bm) u1 w4 from ⟨ho4.os, ho4.tape, ho4.output, ho4.size, ho4.block⟩)
              have HXd := Lib.hid (show Grid u1.drew (.slice xa xn xc) (applyS e0.1 sp) from HX.out.grid)
              have HUd := Lib.hid (show Grid u1.drew (.slice ua e0.1.length uc) e0.1 from HU1.out.grid)
              have hnm : ∀ x, x = bm → ¬ ImgS w.heap.size u1 x := fun x e => by subst e; exact not_img_map hwb Hst1.out.map
              have HQ4 := Lib.hid (Hst1.out.q.only HO4.out (fun _ h => h) hnm)
              have HX4 := Lib.hid (HX.out.only HO4.out hnm)
              have Hkeep4 := Lib.hid (show ∀ g, wo.heap.size ≤ g → SwBlk wS g ss → SwBlk w4 g ss from fun g h1 h2 => (Hkeep1.out g h1 h2).only HO4.out (fun e => by have e : g = bm := e; omega))
              have HB4 := Lib.hid (show Below w.heap.size w w4 from Hst1.out.bel.trans (HO4.out.below Hst1.out.bel.size fun x e => by have e : x = bm := e; omega))
              have Hnew := Lib.hid (show BMid r c t j e0 (ss.take (k + 1)) (acc ++ [(applyS e0.1 sp, e0.2 ++ [sp])]) from by
                have h := Hstep.out
                unfold proc1 at h
                rwa [if_neg (by rw [← Hsn.out]; simp)] at h)
              have Hpush := Lib.hid (show farOf r c (acc ++ [(applyS e0.1 sp, e0.2 ++ [sp])]) = putF (farOf r c acc) KX (P0 + 1) from by
                rw [far_push (e := (applyS e0.1 sp, e0.2 ++ [sp])) hc1 Hacc.out hshx Hsn.out.symm, HKX.out, List.length_append, ← HP0.out]; rfl)
              have hwi : wi.heap.size ≤ u1.heap.size := hu1
              have hL2 : L = (acc.map Prod.fst).length := by rw [List.length_map]; exact HL.out
              have HL2 := Lib.hid hL2
              clear hfe hP0e hf4 ho4 hL2 hu1
              go_wp2
              go_region_with (first | (go_at_call 161; first | (with_reducible refine (keyOf_c _ (applyS e0.1 sp) r c _ HXd.out hshx hr1 hr5 hc1 hc5).mono ?_; rintro e w' ⟨rfl, rfl⟩; rw [← HKX.out]) | (with_reducible refine (keyOf_c _ e0.1 r c _ HUd.out hsh0 hr1 hr5 hc1 hc5).mono ?_; rintro e w' ⟨rfl, rfl⟩; rw [← HK0.out])))
              all_goals
                obtain ⟨us, hq1, hq2, hq3⟩ := HQ4.out.q
                have Hq1 := Lib.hid hq1
                have hus : us.length < 1099511627776 := by rw [hq2, ← HL2.out]; omega
                have hbm4 := Hf4.out.lt
                clear hq1
                go_wp2_with (first | (at_builtin; (refine wpList_app (w0 := w4) rfl _ _ 77 rfl rAnyV 31 Tryz.underlying77 infoGridP rfl (by decide) (fun x => w.heap.size ≤ x ∧ ¬ x = bm ∧ x < w4.heap.size) (fun _ => False) (fun x => w.heap.size ≤ x ∧ ¬ x = bm) _ (.slice xa xn xc) us (.slice xa xn xc) rfl rfl (by exact Hq1.out) (by exact ⟨rfl, rfl⟩) (fun _ _ h => h) (fun _ h => h.2.2) (fun _ h => h.elim) (fun _ h => ⟨h.1, h.2.1⟩) (fun _ h => h.elim) (fun x hx => ⟨by omega, by omega⟩) hus ?_); intro v7 w7 o7 ho7) | fail)
                have hown := HQ4.out.own_not
                have hQ7 : ImgL w.heap.size (fun x => x = bm) w7 v7 (acc.map Prod.fst ++ [applyS e0.1 sp]) := ImgL.push hq2 hq3 (fun x hx => (hown x hx).2.2.2.2) HX4.out o7 ho7
                have hF7 : FarM w7 bm (acc.length + 1) (putF (farOf r c acc) KX (P0 + 1)) := Hf4.out.same (ho7.block bm hbm4 fun e => (hown bm e).2.1 rfl)
                have hB7 : Below w.heap.size w w7 := HB4.out.trans (ho7.below HB4.out.size fun x hx => (hown x hx).1)
                have Hst7 := Lib.hid (show QSt w w7 v7 bm (acc ++ [(applyS e0.1 sp, e0.2 ++ [sp])]).length ((acc ++ [(applyS e0.1 sp, e0.2 ++ [sp])]).map Prod.fst) (farOf r c (acc ++ [(applyS e0.1 sp, e0.2 ++ [sp])])) from by
                  rw [List.length_append, List.map_append, Hpush.out]
                  exact ⟨hQ7, hF7, hB7, hwb⟩)
                have Hkeep7 := Lib.hid (show ∀ g, wo.heap.size ≤ g → SwBlk wS g ss → SwBlk w7 g ss from fun g h1 h2 => (Hkeep4.out g h1 h2).only ho7 (fun e => by
                  obtain ⟨arr, ha⟩ := (hown g e).2.2.2.1
                  exact (Hkeep4.out g h1 h2).not_type ha (by decide) rfl))
                exact ⟨⟨k + 1, _, by omega, by go_num, Hnew, Hst7, Hkeep7⟩, by simp [intOf]; omega⟩
            · have Hp := Lib.hid (show BMid r c t j e0 (ss.take (k + 1)) acc from by
                have h := Hstep.out
                unfold proc1 at h
                rwa [if_pos Hsn.out.symm] at h)
              clear hcu hcu1
              go_wp2
              go_roundw
              case rel => exact ⟨k + 1, acc, by omega, by go_num, Hp, Hst1, Hkeep1⟩
              case measure => simp [intOf]; omega
        · obtain rfl : k = N := by omega
          have Hbi2 := Lib.hid (show BInv r c t (j + 1) acc from by
            have h := Hmid.out
            rw [List.take_of_length_le (by rw [← HN.out]; exact Nat.le_refl _), Hss.out] at h
            exact h.last)
          go_wp2
          go_roundw
          case rel => exact ⟨j + 1, acc, hjN, by go_num, Hbi2, Hst⟩
          case measure => simp [intOf]; omega
    · have hend : acc.length ≤ j := by rw [← HL.out]; omega
      have Hall := Lib.hid (far_all Hok.out Hbi.out hend)
      have Hdown := Lib.hid (fun g p => down_end (g := g) (p := p) Hok.out Hbi.out hend)
      have Hmap := Lib.hid Hst.out.map
      have HGm := Lib.hid (Hv.out.keep Hst.out.bel)
      have hbmo := Hst.out.map.lt
      have bbw := Hst.out.bel
      obtain ⟨F, hF⟩ : ∃ F, F = farOf r c acc := ⟨_, rfl⟩
      obtain ⟨NA, hNA⟩ : ∃ NA, NA = acc.length := ⟨_, rfl⟩
      rw [← hF] at Hall Hmap
      rw [← hNA] at Hmap
      obtain ⟨NM, hNM, hfm, hnm⟩ := Hall.out m Hok.out.sums
      have Hfm := Lib.hid hfm
      have Him0 := Lib.hid (Img.of_grid HGm.out (Nat.le_refl _))
      clear hF hNA Hbi Hst HL hfm hend hNM
      go_wp2
      go_loopw [15, 16, 18, 19, 20] (fun ov av _ _ _ wr => ∃ (g : List (List Int)) (p : List Sw) (n : Nat), Hid (Sums (rowSumsOf m) (colSumsOf m) r c g) ∧ Hid (Img wo.heap.size wr av g) ∧ Hid (OwnSw wo.heap.size wr ov p) ∧ Hid (∀ q, Down r c t g q → Down r c t m (p ++ q)) ∧ Hid (Far r c t g n) ∧ p.length + n = NM ∧ Hid (Below wo.heap.size wo wr)) (fun ov _ _ _ _ _ => NM - lenV ov)
      case atStart => exact ⟨m, [], NM, Lib.hid Hok.out.sums, Him0, Lib.hid (OwnSw.nil _ _), Lib.hid fun q h => h, Hfm, by simp, Lib.hid (Below.refl _ _)⟩
      case round =>
        clear Him0 Hfm
        obtain ⟨g, p, n, Hg, Hi, Hop, Hdn, Hfar, hpn, Hb⟩ := hrel
        obtain ⟨wd, rfl⟩ : ∃ wd : World, wd = wr := ⟨_, rfl⟩
        have hshg := Hg.out.1
        have hkg := key_small hshg hr5 hc5
        obtain ⟨KG, hKG⟩ : ∃ KG, KG = keyOfImg r c g := ⟨_, rfl⟩
        rw [← hKG] at hkg
        have HKG := Lib.hid hKG
        have Hmapw := Lib.hid (Hmap.out.pure Hb.out)
        have hlk := Hmapw.out.look hkg
        obtain ⟨n', hn1, hn2, hn3⟩ := Hall.out g Hg.out
        obtain rfl : n' = n := hn2.eq Hfar.out
        rw [← hKG] at hn1
        have Hn1 := Lib.hid hn1
        rw [hn1, Option.getD_some] at hlk
        obtain ⟨ga, gc, rfl, -⟩ := Hi.out.grid
        obtain ⟨oa, oc, rfl⟩ := Hop.out.shape
        have hple : p.length ≤ NM := by omega
        clear hKG hn1 hn2
        by_cases hn0 : n' = 0
        · subst hn0
          have Hend := Lib.hid (Hdown.out g p Hdn.out Hfar.out)
          have bbf := bbw.trans_pure Hb.out (Nat.le_refl _)
          have Hop2 := Lib.hid (Hop.out.low bbw.size)
          go_wp2_with (fail)
          refine (keyOf_c _ g r c _ Hi.out.grid hshg hr1 hr5 hc1 hc5).mono ?_
          rintro e w' ⟨rfl, rfl⟩
          rw [← HKG.out]
          go_wp2
          refine bodyPost_ret (v := .tuple #[.slice oa p.length oc, .bool true]) (by simp [results, Tryz.results96, go_sem]) rfl ?_
          exact ⟨_, p, rfl, Hend.out, by omega, Hop2.out, bbf⟩
        have hnp : decide ((0 : Int) < (n' : Int)) = true := by rw [decide_eq_true_eq]; omega
        have hssl := switchesOf_len4 hr4 hc4 g
        have Hmem := Lib.hid (show ∀ s ∈ switchesOf r c g, SwOk r c g s from fun s hs => switchesOf_mem.1 hs)
        have Hmem2 := Lib.hid (show ∀ s, SwOk r c g s → s ∈ switchesOf r c g from fun s hs => switchesOf_mem.2 hs)
        have Hsrt := Lib.hid (switchesOf_sorted hr5 hc5 g)
        obtain ⟨ss, hss⟩ : ∃ ss, ss = switchesOf r c g := ⟨_, rfl⟩
        rw [← hss] at Hmem Hmem2 hssl Hsrt
        have Hss := Lib.hid hss
        clear hss
        go_wp2_with (fail)
        refine (keyOf_c _ g r c _ Hi.out.grid hshg hr1 hr5 hc1 hc5).mono ?_
        rintro e w' ⟨rfl, rfl⟩
        rw [← HKG.out]
        go_wp2_with (fail)
        refine (SwitchesOf_i _ g r c _ Hi.out.grid hshg hr1 hr5 hc1 hc5).mono ?_
        rintro e wS ⟨vs, rfl, oS, bS⟩
        rw [← Hss.out] at oS
        have HSw := Lib.hid (show 0 < ss.length → ∃ g cap, vs = .slice (some ⟨g, 0, none⟩) ss.length cap ∧ wd.heap.size ≤ g ∧ SwBlk wS g ss from fun h => oS.blk h)
        obtain ⟨sa, sc, rfl⟩ := oS.shape
        obtain ⟨N, hN⟩ : ∃ N, N = ss.length := ⟨_, rfl⟩
        rw [← hN] at hssl HSw ⊢
        have HN := Lib.hid hN
        have HbS := Lib.hid (Hb.out.trans_pure bS (Nat.le_refl _))
        have HiS := Lib.hid (Hi.out.pure bS)
        have HopS := Lib.hid (Hop.out.keep bS)
        clear hN oS hlk
        go_wp2
        go_loopw [15, 16, 18, 19, 20, 102] (fun ov av _ _ _ i wr => ∃ k : Nat, k ≤ N ∧ i = .int .i64 k ∧ ov = .slice oa p.length oc ∧ av = .slice ga g.length gc ∧ Hid (∀ (i : Nat) (s : Sw), i < k → ss[i]? = some s → ∀ z, Far r c t (applyS g s) z → n' ≤ z) ∧ Hid (Below wS.heap.size wS wr)) (fun _ _ _ _ _ i _ => N - (intOf i).toNat)
        case atStart => exact ⟨0, Nat.zero_le _, rfl, rfl, rfl, Lib.hid fun i s h => absurd h (Nat.not_lt_zero _), Lib.hid (Below.refl _ _)⟩
        case round =>
          obtain ⟨k, hk, rfl, rfl, rfl, Hno, Hbi⟩ := hrel
          obtain ⟨wi, rfl⟩ : ∃ wi : World, wi = wr := ⟨_, rfl⟩
          by_cases hltk : k < N
          · obtain ⟨sp, hsp⟩ : ∃ sp, ss[k]? = some sp := ⟨_, List.getElem?_eq_getElem (by rw [← HN.out]; exact hltk)⟩
            have hsok := Hmem.out sp (List.mem_of_getElem? hsp)
            obtain ⟨gb, cap, he, hg1, hblk⟩ := HSw.out (by omega)
            obtain ⟨rfl, -⟩ : sa = some ⟨gb, 0, none⟩ ∧ sc = cap := by
              simp only [Value.slice.injEq] at he
              exact ⟨he.1, he.2.2⟩
            have hblk := hblk.pure Hbi.out
            have hgl := hblk.lt
            have c0 := hblk.cells hsp (j := 0) (u := .int .i64 sp.1) rfl
            have c1 := hblk.cells hsp (j := 1) (u := .int .i64 sp.2.1) rfl
            have c2 := hblk.cells hsp (j := 2) (u := .int .i64 sp.2.2.1) rfl
            have c3 := hblk.cells hsp (j := 3) (u := .int .i64 sp.2.2.2) rfl
            rw [Nat.add_zero] at c0
            have Hiw := Lib.hid (HiS.out.pure Hbi.out)
            have Hbox := Lib.hid (Below.pureAlloc wi (.cells (swC sp).toArray 65))
            have Hbk := Lib.hid (Blk.new wi (swC sp).toArray 65)
            have hshx := applyS_shape hshg hsok
            have hkx := key_small hshx hr5 hc5
            obtain ⟨KX, hKX⟩ : ∃ KX, KX = keyOfImg r c (applyS g sp) := ⟨_, rfl⟩
            rw [← hKX] at hkx
            have HKX := Lib.hid hKX
            have Hsok := Lib.hid hsok
            have Hsp := Lib.hid hsp
            have hsx := applyS_sums Hg.out hsok
            obtain ⟨z, hz1, hz2, hz3⟩ := Hall.out _ hsx
            rw [← hKX] at hz1
            have Hz1 := Lib.hid hz1
            have Hz2 := Lib.hid hz2
            have Hsx := Lib.hid hsx
            have HgN := Lib.hid ((Hiw.out.pure Hbox.out).grid)
            clear he hblk hsok hsp hKX hsx hz1 hz2
            go_wp2_with (fail)
            refine (ApplySwitch_t _ g r c sp _ HgN.out hshg hr1 hr5 hc1 hc5 Hsok.out).mono ?_
            rintro e u1 ⟨x1, rfl, q1, d1⟩
            have hd : Below wi.heap.size wi u1 := Hbox.out.trans_pure d1 (Nat.le_refl _)
            have HX := Lib.hid (show Img wo.heap.size u1 x1 (applyS g sp) from Img.of_own q1)
            obtain ⟨xa, xn, xc, rfl⟩ := q1.shape
            have Hiu := Lib.hid (Hiw.out.pure hd)
            have Hbu := Lib.hid (show Below wS.heap.size wS u1 from Hbi.out.trans_pure hd (Nat.le_refl _))
            have Hbo := Lib.hid (show Below wo.heap.size wo u1 from HbS.out.trans_pure Hbu.out (Nat.le_refl _))
            have Hfu := Lib.hid (Hmap.out.pure Hbo.out)
            have hl1 : ∀ n, (Instr.lookup 145 (.map (some bm)) (.int .i64 (KX : Int)) false).run Tryz.prog (u1.drewN n) = .ok (.int .i64 (z : Int)) (u1.drewN n) := fun n => by
              have h := (Hfu.out.same (w' := u1.drewN n) rfl).look hkx
              rwa [Hz1.out, Option.getD_some] at h
            have hl2 : ∀ n, (Instr.lookup 145 (.map (some bm)) (.int .i64 (KG : Int)) false).run Tryz.prog (u1.drewN n) = .ok (.int .i64 (n' : Int)) (u1.drewN n) := fun n => by
              have h := (Hfu.out.same (w' := u1.drewN n) rfl).look hkg
              rwa [Hn1.out, Option.getD_some] at h
            have Hq1 := Lib.hid (show ∀ n, Calls Tryz.prog 161 #[.slice xa xn xc] (u1.drewN n) fun e w' => e = .returned (.int .i64 (KX : Int)) ∧ w' = u1.drewN n from fun n => (keyOf_c _ (applyS g sp) r c (u1.drewN n) (HX.out.grid.keep (below_drewN (Below.refl _ _) n)) hshx hr1 hr5 hc1 hc5).mono fun e w' ⟨he, hw⟩ => ⟨by rw [he, HKX.out], hw.symm⟩)
            have Hq2 := Lib.hid (show ∀ n, Calls Tryz.prog 161 #[.slice ga g.length gc] (u1.drewN n) fun e w' => e = .returned (.int .i64 (KG : Int)) ∧ w' = u1.drewN n from fun n => (keyOf_c _ g r c (u1.drewN n) (Hiu.out.grid.keep (below_drewN (Below.refl _ _) n)) hshg hr1 hr5 hc1 hc5).mono fun e w' ⟨he, hw⟩ => ⟨by rw [he, HKG.out], hw.symm⟩)
            have Hbk1 := Lib.hid (Hbk.out.keep d1)
            have Hop1 := Lib.hid (HopS.out.keep Hbu.out)
            clear q1 hd c0 c1 c2 c3 d1
            go_wp2
            go_quiet ((first | (go_at_call 161; with_reducible exact Calls.quiet_of_same (Hq1.out _)) | (go_at_call 161; with_reducible exact Calls.quiet_of_same (Hq2.out _))))
            obtain ⟨wz, hwz⟩ : ∃ wz, wz = u1.drewN nq := ⟨_, rfl⟩
            have hBz : Below u1.heap.size u1 wz := by rw [hwz]; exact below_drewN (Below.refl _ _) nq
            rw [← hwz]
            have k0 : wz.cell? ⟨wi.heap.size, 0, none⟩ = some (.int .i64 sp.1) := (Hbk1.out.keep hBz).cell 0
            have k1 : wz.cell? ⟨wi.heap.size, 1, none⟩ = some (.int .i64 sp.2.1) := (Hbk1.out.keep hBz).cell 1
            have k2 : wz.cell? ⟨wi.heap.size, 2, none⟩ = some (.int .i64 sp.2.2.1) := (Hbk1.out.keep hBz).cell 2
            have k3 : wz.cell? ⟨wi.heap.size, 3, none⟩ = some (.int .i64 sp.2.2.2) := (Hbk1.out.keep hBz).cell 3
            have HBz := Lib.hid hBz
            have Hz3 := Lib.hid (show ∀ (i : Nat) (s : Sw), i < k + 1 → ss[i]? = some s → n' ≤ z → ∀ z', Far r c t (applyS g s) z' → n' ≤ z' from fun i s hi hs hz z' hz' => by
              by_cases h : i < k
              · exact Hno.out i s h hs z' hz'
              · obtain rfl : i = k := by omega
                rw [Hsp.out] at hs
                obtain rfl := Option.some.inj hs
                rw [← Hz2.out.eq hz']; exact hz)
            clear hwz hBz hl1 hl2
            by_cases hzn : z < n'
            · have hzd : decide ((z : Int) < (n' : Int)) = true := by rw [decide_eq_true_eq]; omega
              have hstep := far_step hshg Hfar.out Hsok.out Hz2.out
              obtain rfl : n' = z + 1 := by omega
              have Hk3 := Lib.hid (Blk.new wz (swC sp).toArray 65)
              have Hbel3 := Lib.hid (Below.pureAlloc wz (.cells (swC sp).toArray 65))
              have Hop3 := Lib.hid ((Hop1.out.keep HBz.out).keep Hbel3.out)
              have HB3 := Lib.hid (show Below wo.heap.size wo (wz.alloc (.cells (swC sp).toArray 65)) from Hbo.out.trans_pure (HBz.out.trans_pure Hbel3.out (Nat.le_refl _)) (Nat.le_refl _))
              have hlen : p.length < 1073741824 := by omega
              have hsz3 := HB3.out.size
              have Hdn2 := Lib.hid (show ∀ q, Down r c t (applyS g sp) q → Down r c t m (p ++ [sp] ++ q) from fun q hq => by
                rw [List.append_assoc]
                refine Hdn.out _ (.step Hfar.out Hsok.out Hz2.out (fun s' hs' hcode k' hk' => ?_) hq)
                obtain ⟨i, hi, e⟩ := List.getElem_of_mem (Hmem2.out s' hs')
                obtain ⟨hk1, hk2⟩ := List.getElem?_eq_some_iff.1 Hsp.out
                have hik : i < k := by
                  rcases Nat.lt_trichotomy i k with h | h | h
                  · exact h
                  · subst h; rw [hk2] at e; subst e; omega
                  · have := List.pairwise_iff_getElem.1 Hsrt.out k i hk1 hi h
                    rw [e, hk2] at this
                    omega
                exact Hno.out i s' hik (by rw [← e]; exact List.getElem?_eq_getElem hi) k' hk')
              go_wp2_with (first
                | (at_builtin; (refine wpList_appSw (w := wz.alloc (.cells (swC sp).toArray 65)) (v := .slice oa p.length oc) (l := p) (gb := wz.heap.size) (c := 1) rfl _ _ 116 rfl Tryz.underlying116 infoSw rfl (by decide) wo.heap.size sp rfl rfl (by exact Hk3.out) (by exact Hop3.out) hlen (by exact hsz3) ?_); intro v4 w4 o4 b4)
                | fail)
              have HX4 := Lib.hid (show Img wo.heap.size w4 (.slice xa xn xc) (applyS g sp) from ((HX.out.pure HBz.out).pure Hbel3.out).only b4 (fun x hx => Hop3.out.not_img x hx))
              have HB4 := Lib.hid (show Below wo.heap.size wo w4 from HB3.out.trans (b4.below hsz3 fun x hx => (Hop3.out.lt x hx).1))
              have hl4 : (p ++ [sp]).length = p.length + 1 := by rw [List.length_append]; rfl
              have Ho4 := Lib.hid o4
              obtain ⟨y1, y2, rfl⟩ := o4.shape
              exact ⟨⟨applyS g sp, p ++ [sp], z, Hsx, HX4, Ho4, Hdn2, Hz2, by rw [hl4]; omega, HB4⟩, by simp [lenV]; omega⟩
            · have hzd : decide ((z : Int) < (n' : Int)) = false := by rw [decide_eq_false_iff_not]; omega
              have Hno2 := Lib.hid (show ∀ (i : Nat) (s : Sw), i < k + 1 → ss[i]? = some s → ∀ z, Far r c t (applyS g s) z → n' ≤ z from fun i s hi hs z' hz' => Hz3.out i s hi hs (by omega) z' hz')
              have Hbi2 := Lib.hid (Hbu.out.trans_pure HBz.out (Nat.le_refl _))
              clear k0 k1 k2 k3
              go_wp2
              go_roundw
              case rel => exact ⟨k + 1, by omega, by go_num, rfl, rfl, Hno2, Hbi2⟩
              case measure => simp [intOf]; omega
          · exfalso
            obtain ⟨n2, rfl⟩ : ∃ n2, n' = n2 + 1 := ⟨n' - 1, by omega⟩
            obtain ⟨s, hs1, p1, hp1, hp2⟩ := far_down hs2 Hfar.out
            obtain ⟨i, hi, rfl⟩ := List.getElem_of_mem (Hmem2.out s hs1)
            obtain ⟨z, -, hz2, -⟩ := Hall.out _ (applyS_sums Hg.out hs1)
            have h1 := Hno.out i _ (by have := HN.out; omega) (List.getElem?_eq_getElem hi) z hz2
            have h2 := hz2.2 p1 hp1
            omega
end Go.Proofs.YthmocomfjgmjoaaGreatDoor

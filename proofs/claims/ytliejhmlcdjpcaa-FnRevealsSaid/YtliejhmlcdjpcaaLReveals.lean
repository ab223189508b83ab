/- FnReveals: the walk of the law. -/
import Derived.Test.YtliejhmlcdjpcaaRf
import Derived.Deep.RegionLaw
namespace Go.Proofs.Ytliejhmlcdjpcaa
open Go.RowKit

/-- the append of a whole list as a step of a region that draws -/
theorem step_appI {P : Program} {w : World} {ops : Array Oper} {o : Oper} {a : Act} {K : Act → World → Prop} {Q : Exit → Act → World → Prop} {Ep : Prop} (hgd : o.guard = none) (s xo : Operand) (t : TypeId)
    (ho : o.op = .call { callee := .builtin .append, args := #[s, xo], argTypes := #[t, t] }) (E : TypeId) {z : Value} (ht : P.underlying t = some (.slice E)) (hinfo : (P.info? E).map (fun i => (i.zero, i.size, i.bytes)) = some (some z, 1, 8)) (hzs : z.cells.size = 1)
    (S : Bk) {v us : Value} {xs ys : List Int} (hs : a.eval s = v) (hx : a.eval xo = us) (hown : Own E IntV S w v xs) (hsrc : Ints w us ys) (hlen : xs.length + ys.length ≤ 1099511627776)
    (h : ∀ v' w', Own E IntV (fun b => S b ∨ (w.heap.size ≤ b ∧ b < w'.heap.size)) w' v' (xs ++ ys) → Only (fun b => v.ownBlock = some b) w w' → K (a.put o.dst v') w') :
    if Region.wanted o (yielded ops a.tmps) = true then Oper.wp P o a w K Q else Ep := by
  have hw : Region.wanted o (yielded ops a.tmps) = true := by simp [Region.wanted, hgd]
  rw [if_pos hw]
  obtain ⟨i, hi, hz, hsize, hby⟩ := info_parts hinfo
  obtain ⟨v', w', hr, h2, h3, -⟩ := run_appendI (P := P) w t o.type E i z ht hi hz hsize hby hzs S v xs ys us hown hsrc hlen
  unfold Oper.wp execOp
  simp only [ho, resolve, invoke, builtin, Sem.run_bind, Sem.run_pure, Result.andThen_ok, List.map_toArray, List.map_cons, List.map_nil, hs, hx, hr]
  exact h v' w' h2 h3
theorem own_lit_drew (w : World) (E : TypeId) : Own E IntV (Iv w.heap.size (w.alloc (.cells #[] E)).heap.size) (w.alloc (.cells #[] E)) (.slice (some ⟨w.heap.size, 0, none⟩) 0 0) [] := own_lit0 w E w.heap.size rIntV
theorem Ints.suf {w : World} {g n c : Nat} {l : List Int} (h : Ints w (.slice (some ⟨g, 0, none⟩) n c) l) (hn : n ≤ c) {k : Nat} (hk : k ≤ l.length) {p : Option Addr} (hp : k < c → p = some ⟨g, k, none⟩) (hps : c ≤ k → p = some ⟨g, 0, none⟩) : Ints w (.slice p (n - k) (c - k)) (l.drop k) := by
  obtain ⟨a', cap', he, h1, h2, -, h5⟩ := h
  obtain ⟨rfl, rfl, rfl⟩ : a' = some ⟨g, 0, none⟩ ∧ n = l.length ∧ c = cap' := by simpa [eq_comm] using he
  refine ⟨p, c - k, by rw [List.length_drop], by rw [List.length_drop]; omega, by rw [List.length_drop]; omega, fun hno => ?_, fun hpos => ?_⟩
  · exfalso
    by_cases hkc : k < c
    · rw [hp hkc] at hno; cases hno
    · rw [hps (by omega)] at hno; cases hno
  · rw [List.length_drop] at hpos
    obtain ⟨b, off, hbo, hb, hc⟩ := h5 (by omega)
    obtain ⟨rfl, rfl⟩ : g = b ∧ 0 = off := by simpa using hbo
    refine ⟨g, k, hp (by omega), hb, fun j x hx => ?_⟩
    rw [List.getElem?_drop] at hx
    obtain ⟨u, hu, hr⟩ := hc (k + j) x hx
    exact ⟨u, by rw [Nat.zero_add] at hu; exact hu, hr⟩
theorem own_part {wr W w8 : World} {v : Value} {xs : List Int} (hz : W.heap.size = (wr.alloc (.cells #[] 3)).heap.size) (o : Own 3 IntV (fun b => Iv wr.heap.size (wr.alloc (.cells #[] 3)).heap.size b ∨ (W.heap.size ≤ b ∧ b < w8.heap.size)) w8 v xs) (hs : W.heap.size ≤ w8.heap.size) : Own 3 IntV (Iv wr.heap.size w8.heap.size) w8 v xs := by
  have h1 : (wr.alloc (.cells #[] 3)).heap.size = wr.heap.size + 1 := by simp
  exact (rOwn rIntV).mono (fun b hb => hb.elim (fun h => ⟨h.1, by have := h.2; omega⟩) (fun h => ⟨by have := h.1; omega, h.2⟩)) o
theorem below_part {wr W w8 : World} (hW : Below wr.heap.size wr W) (h : Only (fun b => (Value.slice (some ⟨wr.heap.size, 0, none⟩) 0 0).ownBlock = some b) W w8) : Below wr.heap.size wr w8 :=
  hW.trans (h.below hW.size fun b hb => by simp [Value.ownBlock] at hb; omega)
theorem below_part2 {wr W w9 : World} {v : Value} (hW : Below wr.heap.size wr W) (hv : ∀ b, v.ownBlock = some b → wr.heap.size ≤ b) (h : Only (fun b => v.ownBlock = some b) W w9) : Below wr.heap.size wr w9 :=
  hW.trans (h.below hW.size hv)
theorem part_rising {N : Nat} {l : List Int} (h : Rising N l) (k : Nat) : Rising N (l.take k ++ l.drop (k + 1)) := by
  have hsub : (l.take k ++ l.drop (k + 1)).Sublist l := by
    have h1 : (l.drop (k + 1)).Sublist (l.drop k) := by
      rw [← List.drop_drop]
      exact List.drop_sublist _ _
    have h2 := (List.Sublist.refl (l.take k)).append h1
    rwa [List.take_append_drop] at h2
  exact ⟨h.1.sublist hsub, fun x hx => h.2 x (hsub.subset hx)⟩
structure RevFacts (r c : Nat) (m : List (List Int)) (l g : List Int) : Prop where
  lr : Rising (r * c) l
  gr : Rising (r * c) g
  le : cntA c (allImgs (rowSumsOf m) (colSumsOf m)) m l = 1
  ge : cntA c (allImgs (rowSumsOf m) (colSumsOf m)) m g = 1
  lg : l.length ≤ g.length
  fr : l.length ≤ negs (fixedOf (rowSumsOf m) (colSumsOf m))
  part : ∀ k, k < l.length → cntA c (allImgs (rowSumsOf m) (colSumsOf m)) m (l.take k ++ l.drop (k + 1)) ≠ 1
  zero : l.length = 0 ↔ switchesOf r c m = []
theorem revLe_len {p q : List Int} (h : revLe p q) : p.length ≤ q.length := by
  rcases h with h | ⟨h, -⟩ <;> omega
theorem revFacts {r c : Nat} {m : List (List Int)} (hs : Shape r c m) (hr1 : 1 ≤ r) (hr5 : r ≤ 5) (hc1 : 1 ≤ c) (hc5 : c ≤ 5) : RevFacts r c m (leastOf r c m) (greedyOf r c m) := by
  obtain ⟨-, ⟨h1, h2⟩, h3⟩ := leastOf_spec hs hr1 hr5 hc1 hc5
  obtain ⟨g1, g2⟩ := greedyOf_spec hs hr1 hr5 hc1 hc5
  obtain ⟨f, f1, f2, f3⟩ := free_enough hs hr1 hr5 hc1 hc5
  have he := h2
  unfold enoughB at he
  rw [decide_eq_true_eq] at he
  refine ⟨h1, g1, he, g2, revLe_len (h3 _ g1 (by unfold enoughB; rw [decide_eq_true_eq]; exact g2)), by rw [← f3]; exact revLe_len (h3 _ f1 f2), fun k hk e => ?_, ?_⟩
  · have := revLe_len (h3 _ (part_rising h1 k) (by unfold enoughB; rw [decide_eq_true_eq]; exact e))
    rw [List.length_append, List.length_take, List.length_drop] at this
    omega
  · have hnil : cntA c (allImgs (rowSumsOf m) (colSumsOf m)) m [] = (allImgs (rowSumsOf m) (colSumsOf m)).length := by
      unfold cntA agreeing
      rw [show (allImgs (rowSumsOf m) (colSumsOf m)).filter (fun h => agreesB c m h []) = allImgs (rowSumsOf m) (colSumsOf m) from List.filter_eq_self.2 (fun _ _ => rfl)]
    rw [← images_one hs hr1 hr5 hc1 hc5, ← hnil]
    constructor
    · intro h0
      rw [List.length_eq_zero_iff] at h0
      rw [h0] at he
      exact he
    · intro h0
      have := revLe_len (h3 [] (rising_nil _) (by unfold enoughB; rw [decide_eq_true_eq]; exact h0))
      simpa using this
set_option maxRecDepth 100000 in
set_option maxHeartbeats 3200000 in
theorem FnReveals_w {v : Value} {bs : List Int} {w : World} (hv : Bytes w v bs) :
    Calls Try.prog 3 #[v] w fun e w' => e = .returned (.bool true) ∧ Below w.heap.size w w' := by
  obtain ⟨a, cap, rfl, -, -, -, -⟩ := id hv
  rcases Nat.lt_or_ge 1048576 bs.length with h1 | h1
  · go_enter Try.func3, Try.ntmps3
    go_wp2
    go_ret
    exact ⟨rfl, Below.refl _ _⟩
  have hd0 : decide ((1048576 : Int) < (bs.length : Int)) = false := by simp; omega
  go_enter Try.func3, Try.ntmps3
  go_wp2_with (fail)
  refine (MakeImage_c _ bs 0 3 w hv (by decide) (by decide) (by decide)).mono ?_
  rintro e w1 ⟨v1, m, r, c, rfl, ⟨hr1, hr3⟩, ⟨hc1, hc3⟩, hsh, hown1, bb1⟩
  have hr5 : r ≤ 5 := by omega
  have hc5 : c ≤ 5 := by omega
  have hN25 : r * c ≤ 25 := Nat.mul_le_mul hr5 hc5
  obtain ⟨p, off, cp, rfl, hp, -⟩ := hown1.grid.cells hsh hr1 hc1
  have Hm := Lib.hid hown1.grid
  have hF := revFacts hsh hr1 hr5 hc1 hc5
  have hll := rising_le hF.lr
  have hgl := rising_le hF.gr
  obtain ⟨l, hl⟩ : ∃ l, l = leastOf r c m := ⟨_, rfl⟩
  obtain ⟨g, hg⟩ : ∃ g, g = greedyOf r c m := ⟨_, rfl⟩
  rw [← hl, ← hg] at hF
  rw [← hl] at hll
  rw [← hg] at hgl
  have HF := Lib.hid hF
  have Hl := Lib.hid hl
  have Hg := Lib.hid hg
  clear hown1 hF hl hg
  go_wp2_with (fail)
  refine (LeastReveal_i _ m r c _ Hm.out hsh hr1 hr3 hc1 (by omega)).mono ?_
  rintro e w2 ⟨v2, rfl, o2, b2⟩
  rw [← Hl.out] at o2
  have Ho2 := Lib.hid o2
  obtain ⟨al, cl, rfl, hcl, -⟩ := id o2.ints
  clear o2
  go_wp2_with (fail)
  refine (GreedyReveal_i _ m r c _ (Hm.out.keep b2) hsh hr1 hr5 hc1 hc5).mono ?_
  rintro e w3 ⟨v3, rfl, o3, b3⟩
  rw [← Hg.out] at o3
  have Hg3 := Lib.hid o3.ints
  obtain ⟨ag, cg, rfl, -⟩ := id o3.ints
  have Hl3 := Lib.hid ((rOwn rIntV).same (sameOn_below b3 fun b hb => hb.2) Ho2.out)
  have b13 := b2.trans_pure b3 (Nat.le_refl _)
  clear o3
  go_wp2_with (fail)
  refine (IsEnough_i _ _ m l r c _ (Hm.out.keep b13) Hl3.out.ints hsh hr1 hr5 hc1 hc5 HF.out.lr).mono ?_
  rintro e w4 ⟨rfl, b4⟩
  rw [decide_eq_true HF.out.le]
  go_wp2_with (fail)
  refine (IsEnough_i _ _ m g r c _ ((Hm.out.keep b13).keep b4) (Hg3.out.keep b4) hsh hr1 hr5 hc1 hc5 HF.out.gr).mono ?_
  rintro e w5 ⟨rfl, b5⟩
  rw [decide_eq_true HF.out.ge]
  have b35 := b4.trans_pure b5 (Nat.le_refl _)
  have hlg := HF.out.lg
  have hdlg : decide ((l.length : Int) > (g.length : Int)) = false := by rw [decide_eq_false_iff_not]; omega
  have hdlg2 : ¬ (g.length : Int) < (l.length : Int) := by omega
  go_wp2_with (fail)
  refine (FreeCells_i _ m r c _ ((Hm.out.keep b13).keep b35) hsh hr1 hr5 hc1 hc5).mono ?_
  rintro e w6 ⟨rfl, b6⟩
  have hfr := HF.out.fr
  obtain ⟨NF, hNF⟩ : ∃ NF, NF = negs (fixedOf (rowSumsOf m) (colSumsOf m)) := ⟨_, rfl⟩
  rw [← hNF] at hfr ⊢
  have b36 := b35.trans_pure b6 (Nat.le_refl _)
  have hdf : ¬ (NF : Int) < (l.length : Int) := by omega
  clear hNF
  go_wp2_with (fail)
  refine (RevealNext_i _ _ m g r c _ ((Hm.out.keep b13).keep b36) (Hg3.out.keep b36) hsh hr1 hr5 hc1 hc5 HF.out.gr).mono ?_
  rintro e w7 ⟨rfl, b7⟩
  rw [show nextOr r c (allImgs (rowSumsOf m) (colSumsOf m)) m g = -1 from by unfold nextOr; rw [if_pos HF.out.ge]]
  have b37 := b36.trans_pure b7 (Nat.le_refl _)
  have Hl7 := Lib.hid ((rOwn rIntV).same (sameOn_below b37 fun b hb => Nat.lt_of_lt_of_le hb.2 b3.size) Hl3.out)
  have Hm7 := Lib.hid ((Hm.out.keep b13).keep b37)
  have bb7 := bb1.trans_pure (b13.trans_pure b37 (Nat.le_refl _)) (Nat.le_refl _)
  go_wp2
  go_loopw [8, 9, 65] (fun _ _ i wr => ∃ k : Nat, k ≤ l.length ∧ i = .int .i64 k ∧ Hid (Below w7.heap.size w7 wr)) (fun _ _ i _ => l.length - (intOf i).toNat)
  case atStart => exact ⟨0, Nat.zero_le _, rfl, Below.refl _ _⟩
  case round =>
    obtain ⟨k, hk, rfl, Hb⟩ := hrel
    by_cases hlt : k < l.length
    · obtain ⟨gl, cl', he, hgS, hclc, hgl7, -⟩ := Hl7.out.inv_ne (by omega)
      obtain ⟨rfl, rfl⟩ : al = some ⟨gl, 0, none⟩ ∧ cl = cl' := by simpa using he
      have hwsz : wr.drew.heap.size = wr.heap.size := rfl
      have Hwo := Lib.hid (show Below w7.heap.size w7 wr.drew from Hb.out.drew)
      have HLi := Lib.hid (show ∀ w', Below w7.heap.size w7 w' → Ints w' (.slice (some ⟨gl, 0, none⟩) l.length cl) l from fun w' hb => Hl7.out.ints.keep hb)
      have HPre := Lib.hid (show ∀ w', Below w7.heap.size w7 w' → Ints w' (.slice (some ⟨gl, 0, none⟩) k cl) (l.take k) from fun w' hb => Ints.pre (HLi.out w' hb) (by omega))
      obtain ⟨P, hP⟩ : ∃ P, (if cl = k + 1 then (some ⟨gl, 0, none⟩ : Option Addr) else some ⟨gl, k + 1, none⟩) = P := ⟨_, rfl⟩
      have HSuf := Lib.hid (show ∀ w', Below w7.heap.size w7 w' → Ints w' (.slice P (l.length - (k + 1)) (cl - (k + 1))) (l.drop (k + 1)) from fun w' hb => by rw [← hP]; exact Ints.suf (HLi.out w' hb) hclc (by omega) (fun h => if_neg (by omega)) (fun h => if_pos (by omega)))
      have HPr := Lib.hid (part_rising HF.out.lr k)
      have HPn := Lib.hid (HF.out.part k hlt)
      have Hlit := Lib.hid (show ∀ W, Below (wr.alloc (.cells #[] 3)).heap.size (wr.alloc (.cells #[] 3)) W → Own 3 IntV (Iv wr.heap.size (wr.alloc (.cells #[] 3)).heap.size) W (.slice (some ⟨wr.heap.size, 0, none⟩) 0 0) [] from fun W hW => (rOwn rIntV).same (sameOn_below hW fun b hb => hb.2) (own_lit0 wr 3 wr.heap.size rIntV))
      have HBa := Lib.hid (show ∀ W, Below (wr.alloc (.cells #[] 3)).heap.size (wr.alloc (.cells #[] 3)) W → Below w7.heap.size w7 W from fun W hW => (Hb.out.trans_pure (Below.pureAlloc wr (.cells #[] 3)) (Nat.le_refl _)).trans_pure hW (Nat.le_refl _))
      have Hpa := Lib.hid (Below.pureAlloc wr (.cells #[] 3))
      have hl0 : ([] : List Int).length + (l.take k).length ≤ 1099511627776 := by rw [List.length_nil, List.length_take]; omega
      have hl1 : (l.take k).length + (l.drop (k + 1)).length ≤ 1099511627776 := by rw [List.length_take, List.length_drop]; omega
      have hz1 : (wr.alloc (.cells #[] 3)).heap.size = wr.heap.size + 1 := by simp
      have Hz1 := Lib.hid hz1
      clear hz1
      have hkc : k ≤ cl := by omega
      have hkc1 : k + 1 ≤ cl := by omega
      have hwk : IntKind.i64.wrap ((k : Int) + 1) = (k : Int) + 1 := by rw [IntKind.wrap_i64]; omega
      have htn : ((k : Int) + 1).toNat = k + 1 := by omega
      have hb0 : (0 : Int) ≤ (k : Int) + 1 := by omega
      have hb1 : (k : Int) + 1 ≤ (l.length : Int) := by omega
      go_wp2
      go_region_law (first
        | (refine step_appI (v := .slice (some ⟨wr.heap.size, 0, none⟩) 0 0) (us := .slice (some ⟨gl, 0, none⟩) k cl) rfl (.tmp 68) (.tmp 71) 25 rfl 3 Try.underlying25 infoInt rfl (Iv wr.heap.size (wr.alloc (.cells #[] 3)).heap.size) (by simp [Act.eval]) (by simp [Act.eval]) (by exact Hlit.out _ ⟨rfl, rfl, rfl, Nat.le_refl _, fun _ _ => rfl⟩) (by exact HPre.out _ (HBa.out _ ⟨rfl, rfl, rfl, Nat.le_refl _, fun _ _ => rfl⟩)) hl0 ?_; intro v8 w8 o8 h8; rw [List.nil_append] at o8; have o8' := own_part rfl o8 h8.size; obtain ⟨y1, y2, y3, rfl⟩ := o8'.shape; have q8 := below_part (wr := wr) (by exact ⟨Hpa.out.os, Hpa.out.tape, Hpa.out.output, Hpa.out.size, Hpa.out.block⟩) h8; have Q8 := Lib.hid q8; have HB8 := Lib.hid (show ∀ W, Below w8.heap.size w8 W → Below w7.heap.size w7 W from fun W hW => (Hb.out.trans_pure q8 (Nat.le_refl _)).trans_pure hW (Nat.le_refl _)); have Ho8 := Lib.hid (show ∀ W, Below w8.heap.size w8 W → Own 3 IntV (Iv wr.heap.size w8.heap.size) W (.slice y1 y2 y3) (l.take k) from fun W hW => (rOwn rIntV).same (sameOn_below hW fun b hb => hb.2) o8'); clear o8 o8' h8 q8)
        | (refine step_appI (v := .slice y1 y2 y3) (us := .slice P (l.length - (k + 1)) (cl - (k + 1))) rfl (.tmp 72) (.tmp 76) 25 rfl 3 Try.underlying25 infoInt rfl (Iv wr.heap.size w8.heap.size) (by simp [Act.eval]) (by simp [Act.eval]) (by exact Ho8.out _ ⟨rfl, rfl, rfl, Nat.le_refl _, fun _ _ => rfl⟩) (by exact HSuf.out _ (HB8.out _ ⟨rfl, rfl, rfl, Nat.le_refl _, fun _ _ => rfl⟩)) hl1 ?_; intro v9 w9 o9 h9; obtain ⟨z1, z2, z3, rfl⟩ := o9.shape; have Ho9 := Lib.hid o9.ints; have HB9 := Lib.hid (show Below w7.heap.size w7 w9 from Hb.out.trans_pure (below_part2 (by exact Q8.out) (by exact fun b hb => ((Ho8.out _ (Below.refl _ _)).ownBlock' b hb).1) h9) (Nat.le_refl _)); clear o9 h9))
      go_wp2_with (fail)
      all_goals
        refine (IsEnough_i _ _ m (l.take k ++ l.drop (k + 1)) r c _ (Hm7.out.keep HB9.out) Ho9.out hsh hr1 hr5 hc1 hc5 HPr.out).mono ?_
        rintro e u1 ⟨rfl, d1⟩
        rw [decide_eq_false HPn.out]
        have Hbf := Lib.hid (HB9.out.trans_pure d1 (Nat.le_refl _))
        go_wp2
      all_goals go_roundw
      all_goals first
        | (simp [intOf]; omega)
        | exact ⟨k + 1, by omega, by go_num, Hbf⟩
    · obtain rfl : k = l.length := by omega
      have bbf := bb7.trans_pure Hb.out (Nat.le_refl _)
      have Hmf := Lib.hid (Hm7.out.keep Hb.out)
      obtain ⟨z, hz⟩ : ∃ z, ((l.length : Int) == 0) = z := ⟨_, rfl⟩
      have Hz := Lib.hid (show decide (switchesOf r c m = []) = z from by rw [← hz, Bool.eq_iff_iff, decide_eq_true_eq, beq_iff_eq, ← HF.out.zero]; omega)
      go_wp2_with (fail)
      refine (IsUnique_i _ m r c _ Hmf.out hsh hr1 hr5 hc1 hc5).mono ?_
      rintro e u1 ⟨rfl, d1⟩
      rw [Hz.out]
      have bbg := bbf.trans_pure d1 (Nat.le_refl _)
      clear hz
      go_wp2
      go_ret
      exact ⟨retB (by cases z <;> rfl), bbg⟩
end Go.Proofs.Ytliejhmlcdjpcaa

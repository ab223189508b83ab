/- An append of one element to an owned slice, the element's box lying anywhere. -/
import Derived.Test.YtliejhmlcdjpcaaMem2
import Derived.Deep.RegionLaw
namespace Go.Proofs.Ytliejhmlcdjpcaa
open Go.RowKit

theorem run_append1g {α : Type} {P : Program} {R : RepT α} (hR : Rep R) (w : World) (t ty E : TypeId) (i : TypeInfo) (z : Value) (bytes : Nat) (ht : P.underlying t = some (.slice E)) (hi : P.info? E = some i) (hz : i.zero = some z)
    (hsize : i.size = 1) (hby : i.bytes = bytes) (hzs : z.cells.size = 1) (hb64 : bytes ≤ 64)
    (S T : Bk) (v u : Value) (xs : List α) (x : α) (ad : Addr) (c : Nat) (hnew : w.cell? ad = some u) (had : ad.add 0 = ad) (hown : Own E R S w v xs) (hu : R T w u x) (hST : ∀ b, S b → ¬ T b) (hS : ∀ b, S b → b < w.heap.size) (hT : ∀ b, T b → b < w.heap.size)
    (hlen : xs.length < 1099511627776) :
    ∃ v' w', (Builtin.append_ #[t, t] ty #[v, .slice (some ad) 1 c]).run P w = .ok v' w' ∧
      Own E R (fun b => (S b ∨ T b ∨ w.heap.size ≤ b) ∧ b < w'.heap.size) w' v' (xs ++ [x]) ∧ Only (fun b => v.ownBlock = some b) w w' := by
  have huo := hR.one hu
  have hnews : ∀ j u', [u][j]? = some u' → w.cell? (ad.add j) = some u' := by
    intro j u' hj
    match j, hj with
    | 0, hj => simp at hj; subst hj; rw [had]; exact hnew
  have h1c : ∀ u' ∈ [u], u'.oneCell' = true := by intro u' hu'; simp at hu'; subst hu'; exact huo
  rcases hown with ⟨rfl, rfl⟩ | ⟨g, arr, rfl, hg, hh, h1, h2, h3, Tk, hT1', hT2, hT3⟩
  · obtain ⟨v', w', hrun, hown', hgrow, -⟩ := run_append_own (P := P) w w.heap.size t ty E i z 1 bytes ht hi hz hsize hby hzs (by decide) (.slice none 0 0) 0 [] (World.ownsRow_nil _ _ _ _)
      ad 1 c [u] rfl hnews h1c (by simp [maxLen]) (by omega) (Nat.le_refl _)
    refine ⟨v', w', hrun, ?_, ?_⟩
    · rcases hown'.2 with ⟨_, h⟩ | ⟨g, cap, cur, rfl, hbg, hhg, hnc, hcm, hcs, htake⟩
      · omega
      · have hgs := lt_of_block hhg
        refine .inr ⟨g, cur, by simp at hcs; simp [hcs], ⟨.inr (.inr hbg), hgs⟩, hhg, by simp at hcs; simp; omega, by simp at hcs; omega, by simp, fun k b => T b ∧ k = 0, ?_, ?_, ?_⟩
        · intro k b hb
          have := hT b hb.1
          exact ⟨⟨.inr (.inl hb.1), by omega⟩, by omega⟩
        · intro j k b hj hk; rw [hj.2, hk.2]
        · intro k y hk
          have hk0 : k = 0 := by
            have := (List.getElem?_eq_some_iff.1 hk).1
            simpa using this
          subst hk0
          simp at hk; subst hk
          refine ⟨u, ?_, ?_⟩
          · have : cur.toList[0]? = some u := by
              have h := congrArg (fun l => l[0]?) htake
              simp at h
              simpa [List.getElem?_take] using h
            simpa using this
          · refine hR.mono (S := T) (fun b hb => ⟨hb, rfl⟩) (hR.same (fun b hb => ?_) hu)
            exact hgrow.block b (hT b hb) (by simp [Value.ownBlock])
    · exact ⟨hgrow.os, hgrow.tape, hgrow.output, hgrow.size, fun b hb hn => hgrow.block b hb (by simp [Value.ownBlock])⟩
  · have hown0 : w.ownsRow 0 E 1 (.slice (some ⟨g, 0, none⟩) xs.length arr.size) xs.length (arr.toList.take xs.length) :=
      ⟨by simp; omega, .inr ⟨g, arr.size, arr, rfl, Nat.zero_le _, hh, h1, h2, by simp, by simp⟩⟩
    have hTk : ∀ k y, xs[k]? = some y → ∀ w' : World, (∀ b, b < w.heap.size → b ≠ g → w'.heap[b]? = w.heap[b]?) → ∃ u', arr[k]? = some u' ∧ R (Tk k) w' u' y := by
      intro k y hk w' hw'
      obtain ⟨u', hu', hr'⟩ := hT3 k y hk
      exact ⟨u', hu', hR.same (fun b hb => hw' b (hS b (hT1' k b hb).1) (hT1' k b hb).2) hr'⟩
    have hnT : ∀ b, T b → b ≠ g := fun b hb e => hST g hg (e ▸ hb)
    by_cases hroom : xs.length + 1 ≤ arr.size
    · have hr := run_append_room (P := P) w t ty E i ht hi g xs.length arr.size arr hh ad 1 c [u] (by simp [hsize]) hnews h1c hroom (by simp [hsize]; omega)
      refine ⟨_, _, hr, ?_, ?_⟩
      · have hsz : (w.setRow g (arr.toList.take (xs.length * i.size) ++ [u] ++ arr.toList.drop (xs.length * i.size + [u].length)).toArray).heap.size = w.heap.size := by simp [World.setRow]
        refine .inr ⟨g, _, ?_, ⟨.inl hg, ?_⟩, setRow_heap _ g arr _ E _ hh, ?_, ?_, by simp; omega, fun k b => if k = xs.length then T b else Tk k b ∧ k < xs.length, ?_, ?_, ?_⟩
        · simp [hsize]; omega
        · exact lt_of_block (setRow_heap _ g arr _ E _ hh)
        · simp [hsize]; omega
        · simp [hsize]; have := h2; omega
        · intro k b hb
          split at hb
          · exact ⟨⟨.inr (.inl hb), by have := hT b hb; omega⟩, hnT b hb⟩
          · exact ⟨⟨.inl (hT1' k b hb.1).1, by have := hS b (hT1' k b hb.1).1; omega⟩, (hT1' k b hb.1).2⟩
        · intro j k b hj hk
          split at hj <;> split at hk
          · omega
          · exact absurd hj (hST b (hT1' k b hk.1).1)
          · exact absurd hk (hST b (hT1' j b hj.1).1)
          · exact hT2 j k b hj.1 hk.1
        · intro k y hk
          have hother : ∀ b, b < w.heap.size → b ≠ g → (w.setRow g (arr.toList.take (xs.length * i.size) ++ [u] ++ arr.toList.drop (xs.length * i.size + [u].length)).toArray).heap[b]? = w.heap[b]? := fun b hb hne => setRow_other _ g b _ hne
          by_cases hkl : k < xs.length
          · obtain ⟨u', hu', hr'⟩ := hTk k y (by rw [List.getElem?_append_left hkl] at hk; exact hk) _ hother
            refine ⟨u', ?_, ?_⟩
            · simp only [hsize, Nat.mul_one, List.getElem?_toArray]
              rw [List.append_assoc, List.getElem?_append_left (by simp; omega), List.getElem?_take, if_pos hkl]; simpa using hu'
            · simpa [Nat.ne_of_lt hkl, hkl] using hr'
          · have hk' : k = xs.length := by
              have := (List.getElem?_eq_some_iff.1 hk).1
              simp at this; omega
            subst hk'
            simp at hk; subst hk
            refine ⟨u, ?_, ?_⟩
            · simp only [hsize, Nat.mul_one, List.getElem?_toArray]
              rw [List.append_assoc, List.getElem?_append_right (by simp; omega)]; simp [Nat.min_eq_left h1]
            · simp only [if_true]
              exact hR.same (fun b hb => hother b (hT b hb) (hnT b hb)) hu
      · refine ⟨rfl, rfl, rfl, by simp [World.setRow], fun b hb hn => ?_⟩
        exact setRow_other _ g b _ (fun e => hn (by simp [Value.ownBlock, e]))
    · obtain ⟨v', w', hrun, hown', hgrow⟩ := run_append_arg_grows (P := P) w t ty E i z 1 bytes ht hi hz hsize hby hzs (by decide) ⟨g, 0, none⟩ xs.length arr.size (arr.toList.take xs.length) (by simp; omega)
        (fun j u' hj => hown0.cells (g := g) rfl j u' hj) ad 1 c [u] rfl hnews (by omega) (by simp [maxLen]; omega) (by
          have : (xs.length + 1) * bytes ≤ 1099511627776 * 64 := Nat.mul_le_mul (by omega) hb64
          omega)
      refine ⟨v', w', hrun, ?_, ?_⟩
      · rcases hown'.2 with ⟨_, h⟩ | ⟨g', cap, cur, rfl, hbg, hhg, hnc, hcm, hcs, htake⟩
        · omega
        · have hgs := lt_of_block hhg
          simp at hbg hcs
          have hother : ∀ b, b < w.heap.size → w'.heap[b]? = w.heap[b]? := fun b hb => hgrow.block b hb (by simp)
          refine .inr ⟨g', cur, by simp [hcs], ⟨.inr (.inr (by omega)), hgs⟩, hhg, by simp; omega, by omega, by simp; omega, fun k b => if k = xs.length then T b else Tk k b ∧ k < xs.length, ?_, ?_, ?_⟩
          · intro k b hb
            split at hb
            · have := hT b hb
              exact ⟨⟨.inr (.inl hb), by omega⟩, by omega⟩
            · have := hS b (hT1' k b hb.1).1
              exact ⟨⟨.inl (hT1' k b hb.1).1, by omega⟩, by omega⟩
          · intro j k b hj hk
            split at hj <;> split at hk
            · omega
            · exact absurd hj (hST b (hT1' k b hk.1).1)
            · exact absurd hk (hST b (hT1' j b hj.1).1)
            · exact hT2 j k b hj.1 hk.1
          · intro k y hk
            have hcur : ∀ j, j < xs.length + 1 → cur[j]? = (arr.toList.take xs.length ++ [u])[j]? := by
              intro j hj
              rw [← htake, List.getElem?_take, if_pos (by omega)]; simp
            by_cases hkl : k < xs.length
            · obtain ⟨u', hu', hr'⟩ := hTk k y (by rw [List.getElem?_append_left hkl] at hk; exact hk) w' (fun b hb _ => hother b hb)
              refine ⟨u', ?_, ?_⟩
              · rw [hcur k (by omega), List.getElem?_append_left (by simp; omega), List.getElem?_take, if_pos hkl]; simpa using hu'
              · simpa [Nat.ne_of_lt hkl, hkl] using hr'
            · have hk' : k = xs.length := by
                have := (List.getElem?_eq_some_iff.1 hk).1
                simp at this; omega
              subst hk'
              simp at hk; subst hk
              refine ⟨u, ?_, ?_⟩
              · rw [hcur _ (by omega), List.getElem?_append_right (by simp; omega)]; simp [Nat.min_eq_left h1]
              · simp only [if_true]
                exact hR.same (fun b hb => hother b (hT b hb)) hu
      · exact ⟨hgrow.os, hgrow.tape, hgrow.output, hgrow.size, fun b hb _ => hgrow.block b hb (by simp)⟩
theorem step_app1g {α : Type} {P : Program} {w : World} {ops : Array Oper} {o : Oper} {a : Act} {K : Act → World → Prop} {Q : Exit → Act → World → Prop} {Ep : Prop} (hgd : o.guard = none) (s xo : Operand) (t : TypeId)
    (ho : o.op = .call { callee := .builtin .append, args := #[s, xo], argTypes := #[t, t] }) {R : RepT α} (hR : Rep R)
    (E : TypeId) {z : Value} {bytes : Nat} (ht : P.underlying t = some (.slice E)) (hinfo : (P.info? E).map (fun i => (i.zero, i.size, i.bytes)) = some (some z, 1, bytes)) (hzs : z.cells.size = 1) (hb64 : bytes ≤ 64)
    (S T : Bk) {v u : Value} {xs : List α} {x : α} {gb c : Nat} (hs : a.eval s = v) (hx : a.eval xo = .slice (some ⟨gb, 0, none⟩) 1 c) (hnew : w.cell? ⟨gb, 0, none⟩ = some u) (hown : Own E R S w v xs) (hu : R T w u x) (hST : ∀ b, S b → ¬ T b) (hS : ∀ b, S b → b < w.heap.size) (hT : ∀ b, T b → b < w.heap.size) (hlen : xs.length < 1099511627776)
    (h : ∀ v' w', Own E R (fun b => (S b ∨ T b ∨ w.heap.size ≤ b) ∧ b < w'.heap.size) w' v' (xs ++ [x]) → Only (fun b => v.ownBlock = some b) w w' → K (a.put o.dst v') w') :
    if Region.wanted o (yielded ops a.tmps) = true then Oper.wp P o a w K Q else Ep := by
  have hw : Region.wanted o (yielded ops a.tmps) = true := by simp [Region.wanted, hgd]
  rw [if_pos hw]
  obtain ⟨i, hi, hz, hsize, hby⟩ := info_parts hinfo
  obtain ⟨v', w', hr, h2, h3⟩ := run_append1g (P := P) hR w t o.type E i z bytes ht hi hz hsize hby hzs hb64 S T v u xs x ⟨gb, 0, none⟩ c hnew rfl hown hu hST hS hT hlen
  unfold Oper.wp execOp
  simp only [ho, resolve, invoke, builtin, Sem.run_bind, Sem.run_pure, Result.andThen_ok, List.map_toArray, List.map_cons, List.map_nil, hs, hx, hr]
  exact h v' w' h2 h3
theorem wpList_app1g {α : Type} {P : Program} {w : World} {ops : Array Oper} {rest : List Oper} {o : Oper} {a : Act} {Q : Exit → Act → World → Prop} (hgd : o.guard = none) (s xo : Operand) (t : TypeId)
    (ho : o.op = .call { callee := .builtin .append, args := #[s, xo], argTypes := #[t, t] }) {R : RepT α} (hR : Rep R)
    (E : TypeId) {z : Value} {bytes : Nat} (ht : P.underlying t = some (.slice E)) (hinfo : (P.info? E).map (fun i => (i.zero, i.size, i.bytes)) = some (some z, 1, bytes)) (hzs : z.cells.size = 1) (hb64 : bytes ≤ 64)
    (S T : Bk) {v u : Value} {xs : List α} {x : α} {gb c : Nat} (hs : a.eval s = v) (hx : a.eval xo = .slice (some ⟨gb, 0, none⟩) 1 c) (hnew : w.cell? ⟨gb, 0, none⟩ = some u) (hown : Own E R S w v xs) (hu : R T w u x) (hST : ∀ b, S b → ¬ T b) (hS : ∀ b, S b → b < w.heap.size) (hT : ∀ b, T b → b < w.heap.size) (hlen : xs.length < 1099511627776)
    (h : ∀ v' w', Own E R (fun b => (S b ∨ T b ∨ w.heap.size ≤ b) ∧ b < w'.heap.size) w' v' (xs ++ [x]) → Only (fun b => v.ownBlock = some b) w w' → wpList P ops Q rest (a.put o.dst v') w') :
    wpList P ops Q (o :: rest) a w := by
  obtain ⟨i, hi, hz, hsize, hby⟩ := info_parts hinfo
  refine wpList_plain hgd fun K hK => ?_
  obtain ⟨v', w', hr, h2, h3⟩ := run_append1g (P := P) hR w t o.type E i z bytes ht hi hz hsize hby hzs hb64 S T v u xs x ⟨gb, 0, none⟩ c hnew rfl hown hu hST hS hT hlen
  unfold Oper.wp execOp
  simp only [ho, resolve, invoke, builtin, Sem.run_bind, Sem.run_pure, Result.andThen_ok, List.map_toArray, List.map_cons, List.map_nil, hs, hx, hr]
  exact hK _ _ (h v' w' h2 h3)
end Go.Proofs.Ytliejhmlcdjpcaa

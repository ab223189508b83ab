/- Appending all elements of a slice of integers. -/
import Derived.Test.YtliejhmlcdjpcaaMem
import Derived.Laws.AppendOwnNone
namespace Go.Proofs.Ytliejhmlcdjpcaa
open Go.RowKit

theorem own_of_row {E : TypeId} {w : World} {g n : Nat} {cur : Array Value} {S : Bk} {zs : List Int} (hg : w.heap[g]? = some (.cells cur E (0, 0))) (hS : S g) (hn : zs.length = n) (hnc : n ≤ cur.size) (hcm : cur.size ≤ maxLen) (h44 : n ≤ 17592186044416) (ht : cur.toList.take n = zs.map (Value.int .i64)) (hI : ∀ z ∈ zs, I64 z) :
    Own E IntV S w (.slice (some ⟨g, 0, none⟩) n cur.size) zs := by
  subst hn
  refine .inr ⟨g, cur, rfl, hS, hg, hnc, hcm, h44, fun _ _ => False, fun _ _ h => h.elim, fun _ _ _ h => h.elim, fun k x hk => ?_⟩
  have hkl := (List.getElem?_eq_some_iff.1 hk).1
  refine ⟨.int .i64 x, ?_, rfl, hI x (List.mem_of_getElem? hk)⟩
  have h1 : (cur.toList.take zs.length)[k]? = (zs.map (Value.int .i64))[k]? := by rw [ht]
  rw [List.getElem?_take, if_pos hkl, List.getElem?_map, hk] at h1
  simpa using h1

theorem Own.row {E : TypeId} {S : Bk} {w : World} {v : Value} {xs : List Int} (h : Own E IntV S w v xs) : (v = .slice none 0 0 ∧ xs = []) ∨ ∃ g arr, v = .slice (some ⟨g, 0, none⟩) xs.length arr.size ∧ S g ∧ w.heap[g]? = some (.cells arr E (0, 0)) ∧ xs.length ≤ arr.size ∧ arr.size ≤ maxLen ∧ arr.toList.take xs.length = xs.map (Value.int .i64) ∧ ∀ x ∈ xs, I64 x := by
  rcases h with h | ⟨g, arr, rfl, hg, hh, h1, h2, h3, T, hT1, hT2, hT3⟩
  · exact .inl h
  · refine .inr ⟨g, arr, rfl, hg, hh, h1, h2, ?_, fun x hx => ?_⟩
    · apply List.ext_getElem?
      intro k
      rw [List.getElem?_take, List.getElem?_map]
      by_cases hk : k < xs.length
      · rw [if_pos hk, List.getElem?_eq_getElem hk]
        obtain ⟨u, hu, rfl, -⟩ := hT3 k _ (List.getElem?_eq_getElem hk)
        simpa using hu
      · rw [if_neg hk, List.getElem?_eq_none (by omega)]; rfl
    · obtain ⟨k, hk⟩ := List.getElem?_of_mem hx
      obtain ⟨u, -, -, hI⟩ := hT3 k x hk
      exact hI

theorem run_appendI {P : Program} (w : World) (t ty E : TypeId) (i : TypeInfo) (z : Value) (ht : P.underlying t = some (.slice E)) (hi : P.info? E = some i) (hz : i.zero = some z)
    (hsize : i.size = 1) (hby : i.bytes = 8) (hzs : z.cells.size = 1) (S : Bk) (v : Value) (xs ys : List Int) (us : Value) (hown : Own E IntV S w v xs) (hsrc : Ints w us ys) (hlen : xs.length + ys.length ≤ 1099511627776) :
    ∃ v' w', (Builtin.append_ #[t, t] ty #[v, us]).run P w = .ok v' w' ∧ Own E IntV (fun b => S b ∨ (w.heap.size ≤ b ∧ b < w'.heap.size)) w' v' (xs ++ ys) ∧ Only (fun b => v.ownBlock = some b) w w' ∧ (v' = .slice none 0 0 ↔ v = .slice none 0 0 ∧ ys = []) := by
  obtain ⟨a, cap, rfl, hcap, hle, hnone, hc⟩ := hsrc
  have hIy : ∀ y ∈ ys, I64 y := by
    intro y hy
    obtain ⟨k, hk⟩ := List.getElem?_of_mem hy
    have hkl := (List.getElem?_eq_some_iff.1 hk).1
    obtain ⟨b, off, -, -, hcc⟩ := hc (by omega)
    obtain ⟨u, -, -, hI⟩ := hcc k y hk
    exact hI
  have hone : ∀ u ∈ ys.map (Value.int .i64), u.oneCell' = true := ints_oneCell .i64 ys
  cases a with
  | none =>
    have hc0 := hnone rfl
    have hy0 : ys = [] := List.eq_nil_of_length_eq_zero (by omega)
    subst hy0
    obtain rfl : cap = 0 := hc0
    rcases hown.row with ⟨rfl, rfl⟩ | ⟨g, arr, rfl, hg, hh, h1, h2, h3, h4⟩
    · exact ⟨_, _, run_append_owned_none (P := P) w 0 t ty E i 1 ht hi (.slice none 0 0) 0 [] (World.ownsRow_nil _ _ _ _), Own.nil _ _ _ _, Only.refl _ _, by simp⟩
    · have hown0 : w.ownsRow 0 E 1 (.slice (some ⟨g, 0, none⟩) xs.length arr.size) xs.length (xs.map (Value.int .i64)) :=
        ⟨by simp, .inr ⟨g, arr.size, arr, rfl, Nat.zero_le _, hh, h1, h2, by simp, by simpa using h3⟩⟩
      exact ⟨_, _, run_append_owned_none (P := P) w 0 t ty E i 1 ht hi _ _ _ hown0, by simpa using (rOwn rIntV).mono (fun b hb => .inl hb) hown, Only.refl _ _, by simp⟩
  | some ad =>
    by_cases hy : ys = []
    · -- nothing is appended, whatever the address
      subst hy
      have hnews : ∀ j u, ([] : List Value)[j]? = some u → w.cell? (ad.add j) = some u := by intro j u h; simp at h
      rcases hown.row with ⟨rfl, rfl⟩ | ⟨g, arr, rfl, hg, hh, h1, h2, h3, h4⟩
      · obtain ⟨v', w', hrun, ho, hgr, hnil⟩ := run_append_own (P := P) w w.heap.size t ty E i z 1 8 ht hi hz hsize hby hzs (by decide) (.slice none 0 0) 0 [] (World.ownsRow_nil _ _ _ _) ad 0 cap [] rfl hnews (by simp) (by simp [maxLen]) (by decide) (Nat.le_refl _)
        have hv' : v' = .slice none 0 0 := hnil.2 ⟨rfl, rfl⟩
        subst hv'
        exact ⟨_, w', by simpa using hrun, Own.nil _ _ _ _, ⟨hgr.os, hgr.tape, hgr.output, hgr.size, fun b hb hn => hgr.block b hb (by simp [Value.ownBlock])⟩, by simp⟩
      · have hr := run_append_room (P := P) w t ty E i ht hi g xs.length arr.size arr hh ad 0 cap [] (by simp) hnews (by simp) (by omega) (by simp [hsize]; omega)
        have e : (arr.toList.take (xs.length * i.size) ++ ([] : List Value) ++ arr.toList.drop (xs.length * i.size + ([] : List Value).length)).toArray = arr := by simp
        rw [e, setRow_self w g arr E (0, 0) hh] at hr
        refine ⟨_, _, hr, ?_, Only.refl _ _, by simp⟩
        simpa using (rOwn rIntV).mono (fun b hb => .inl hb) hown
    · have hyl : 0 < ys.length := by cases ys with
        | nil => exact absurd rfl hy
        | cons a l => simp
      obtain ⟨b, off, he, hb, hcc⟩ := hc hyl
      obtain rfl := Option.some.inj he
      have hnews : ∀ j u, (ys.map (Value.int .i64))[j]? = some u → w.cell? ((⟨b, off, none⟩ : Addr).add j) = some u := by
        intro j u hj
        rw [List.getElem?_map] at hj
        cases hy' : ys[j]? with
        | none => rw [hy'] at hj; simp at hj
        | some y =>
          rw [hy'] at hj
          simp at hj
          obtain ⟨u', hu', rfl, -⟩ := hcc j y hy'
          rw [Addr.add_lit, hu', hj]
      rcases hown.row with ⟨rfl, rfl⟩ | ⟨g, arr, rfl, hg, hh, h1, h2, h3, h4⟩
      · obtain ⟨v', w', hrun, ho, hgr, hnil⟩ := run_append_own (P := P) w w.heap.size t ty E i z 1 8 ht hi hz hsize hby hzs (by decide) (.slice none 0 0) 0 [] (World.ownsRow_nil _ _ _ _) ⟨b, off, none⟩ ys.length cap (ys.map (Value.int .i64)) (by simp) hnews hone (by simp [maxLen]; simp at hlen; omega) (by simp at hlen ⊢; omega) (Nat.le_refl _)
        refine ⟨v', w', hrun, ?_, ⟨hgr.os, hgr.tape, hgr.output, hgr.size, fun b hb hn => hgr.block b hb (by simp [Value.ownBlock])⟩, by rw [hnil]; simp⟩
        rcases ho.2 with ⟨_, h⟩ | ⟨g, cap', cur, rfl, hbg, hhg, hnc, hcm, hcs, htake⟩
        · omega
        · obtain rfl : cap' = cur.size := by omega
          have := own_of_row (zs := ys) (n := 0 + ys.length) (S := fun b => S b ∨ (w.heap.size ≤ b ∧ b < w'.heap.size)) hhg (.inr ⟨hbg, lt_of_block hhg⟩) (by simp) hnc hcm (by simp at hlen ⊢; omega) (by simpa using htake) hIy
          simpa using this
      · by_cases hroom : xs.length + ys.length ≤ arr.size
        · have hr := run_append_room (P := P) w t ty E i ht hi g xs.length arr.size arr hh ⟨b, off, none⟩ ys.length cap (ys.map (Value.int .i64)) (by simp [hsize]) hnews hone hroom (by simp [hsize]; omega)
          refine ⟨_, _, hr, ?_, ⟨rfl, rfl, rfl, by simp [World.setRow], fun b hb hn => setRow_other _ g b _ (fun e => hn (by simp [Value.ownBlock, e]))⟩, by simp⟩
          have hh2 := setRow_heap w g arr (arr.toList.take (xs.length * i.size) ++ ys.map (Value.int .i64) ++ arr.toList.drop (xs.length * i.size + (ys.map (Value.int .i64)).length)).toArray E (0, 0) hh
          have hsz : (arr.toList.take (xs.length * i.size) ++ ys.map (Value.int .i64) ++ arr.toList.drop (xs.length * i.size + (ys.map (Value.int .i64)).length)).toArray.size = arr.size := by simp [hsize]; omega
          have := own_of_row (zs := xs ++ ys) (n := xs.length + ys.length) (S := fun b => S b ∨ (w.heap.size ≤ b ∧ b < (w.setRow g (arr.toList.take (xs.length * i.size) ++ ys.map (Value.int .i64) ++ arr.toList.drop (xs.length * i.size + (ys.map (Value.int .i64)).length)).toArray).heap.size)) hh2 (.inl hg) (by simp) (by rw [hsz]; omega) (by rw [hsz]; exact h2) (by omega)
            (by
              rw [List.map_append, ← h3]
              simp only [hsize, Nat.mul_one]
              rw [List.take_append_of_le_length (by simp; omega)]
              rw [List.take_of_length_le (by simp; omega)])
            (by intro z hz; rw [List.mem_append] at hz; exact hz.elim (h4 z) (hIy z))
          rw [hsz] at this
          exact this
        · have hcells : ∀ j u, (xs.map (Value.int .i64))[j]? = some u → w.cell? ((⟨g, 0, none⟩ : Addr).add j) = some u := by
            have hown0 : w.ownsRow 0 E 1 (.slice (some ⟨g, 0, none⟩) xs.length arr.size) xs.length (xs.map (Value.int .i64)) :=
              ⟨by simp, .inr ⟨g, arr.size, arr, rfl, Nat.zero_le _, hh, h1, h2, by simp, by simpa using h3⟩⟩
            exact hown0.cells rfl
          obtain ⟨v', w', hrun, ho, hgr⟩ := run_append_arg_grows (P := P) w t ty E i z 1 8 ht hi hz hsize hby hzs (by decide) ⟨g, 0, none⟩ xs.length arr.size (xs.map (Value.int .i64)) (by simp) hcells ⟨b, off, none⟩ ys.length cap (ys.map (Value.int .i64)) (by simp) hnews (by omega) (by simp [maxLen]; omega) (by omega)
          rcases ho.2 with ⟨_, h⟩ | ⟨g', cap', cur, rfl, hbg, hhg, hnc, hcm, hcs, htake⟩
          · omega
          · refine ⟨_, w', hrun, ?_, ⟨hgr.os, hgr.tape, hgr.output, hgr.size, fun b hb _ => hgr.block b hb (by simp)⟩, by simp⟩
            obtain rfl : cap' = cur.size := by omega
            exact own_of_row (zs := xs ++ ys) (n := xs.length + ys.length) hhg (.inr ⟨hbg, lt_of_block hhg⟩) (by simp) hnc hcm (by omega) (by rw [Nat.mul_one] at htake; rw [htake, List.map_append]) (by intro z hz; rw [List.mem_append] at hz; exact hz.elim (h4 z) (hIy z))

/-- FOR THE WALK: 'out = append(out, xs...)', both of integers -/
theorem wpList_appI {P : Program} {w : World} {ops : Array Oper} {rest : List Oper} {o : Oper} {a : Act} {Q : Exit → Act → World → Prop} (hgd : o.guard = none) (s xo : Operand) (t : TypeId)
    (ho : o.op = .call { callee := .builtin .append, args := #[s, xo], argTypes := #[t, t] }) (E : TypeId) {z : Value} (ht : P.underlying t = some (.slice E)) (hinfo : (P.info? E).map (fun i => (i.zero, i.size, i.bytes)) = some (some z, 1, 8)) (hzs : z.cells.size = 1)
    (S : Bk) {v us : Value} {xs ys : List Int} (hs : a.eval s = v) (hx : a.eval xo = us) (hown : Own E IntV S w v xs) (hsrc : Ints w us ys) (hlen : xs.length + ys.length ≤ 1099511627776)
    (h : ∀ v' w', Own E IntV (fun b => S b ∨ (w.heap.size ≤ b ∧ b < w'.heap.size)) w' v' (xs ++ ys) → Only (fun b => v.ownBlock = some b) w w' → (v' = .slice none 0 0 ↔ v = .slice none 0 0 ∧ ys = []) → wpList P ops Q rest (a.put o.dst v') w') :
    wpList P ops Q (o :: rest) a w := by
  obtain ⟨i, hi, hz, hsize, hby⟩ := info_parts hinfo
  refine wpList_plain hgd fun K hK => ?_
  obtain ⟨v', w', hr, h2, h3, h4⟩ := run_appendI (P := P) w t o.type E i z ht hi hz hsize hby hzs S v xs ys us hown hsrc hlen
  unfold Oper.wp execOp
  simp only [ho, resolve, invoke, builtin, Sem.run_bind, Sem.run_pure, Result.andThen_ok, List.map_toArray, List.map_cons, List.map_nil, hs, hx, hr]
  exact hK _ _ (h v' w' h2 h3 h4)
end Go.Proofs.Ytliejhmlcdjpcaa

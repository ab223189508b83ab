/- Contracts: the reference's SortedDown. -/
import Derived.Test.YtliejhmlcdjpcaaX1
import Derived.RegionTactic
import Derived.BigRegion
namespace Go.Proofs.Ytliejhmlcdjpcaa
open Go.RowKit

def insAt (S : List Int) (p : Nat) (x : Int) : List Int := S.take p ++ x :: S.drop p
theorem insAt_len (S : List Int) (p : Nat) (x : Int) : (insAt S p x).length = S.length + 1 := by
  unfold insAt
  rw [List.length_append, List.length_cons, List.length_take, List.length_drop]; omega
theorem insAt_end (S : List Int) (x : Int) : insAt S S.length x = S ++ [x] := by simp [insAt]
theorem insAt_at {S : List Int} {p : Nat} (hp : p ≤ S.length) (x : Int) : (insAt S p x)[p]? = some x := by
  unfold insAt
  rw [List.getElem?_append_right (by rw [List.length_take]; omega), List.length_take, Nat.min_eq_left hp, Nat.sub_self]; rfl
theorem insAt_before {S : List Int} {p : Nat} {y : Int} (hy : S[p]? = some y) (x : Int) : (insAt S (p + 1) x)[p]? = some y := by
  unfold insAt
  have hp := (List.getElem?_eq_some_iff.1 hy).1
  rw [List.getElem?_append_left (by rw [List.length_take]; omega), List.getElem?_take, if_pos (by omega)]; exact hy
theorem insAt_swap : ∀ {S : List Int} {p : Nat} {y : Int}, S[p]? = some y → ∀ x, ((insAt S (p + 1) x).set (p + 1) y).set p x = insAt S p x
  | [], p, y, h, x => by simp at h
  | a :: S, 0, y, h, x => by
    simp at h
    subst h
    simp [insAt]
  | a :: S, p + 1, y, h, x => by
    have := insAt_swap (S := S) (p := p) (y := y) (by simpa using h) x
    simp only [insAt, List.take_succ_cons, List.drop_succ_cons, List.cons_append, List.set_cons_succ] at this ⊢
    rw [this]
theorem insAt_insD : ∀ {S : List Int} {p : Nat} {x : Int}, (∀ y ∈ S.take p, x ≤ y) → (∀ y ∈ S.drop p, y < x) → insAt S p x = insD x S
  | [], p, x, _, _ => by simp [insAt, insD]
  | a :: S, 0, x, _, h => by
    have := h a (by simp)
    simp only [insAt, List.take_zero, List.drop_zero, List.nil_append, insD]
    rw [if_neg (by omega)]
  | a :: S, p + 1, x, h1, h2 => by
    have ha := h1 a (by simp)
    have := insAt_insD (S := S) (p := p) (x := x) (fun y hy => h1 y (by simp [hy])) (fun y hy => h2 y (by simpa using hy))
    simp only [insAt, List.take_succ_cons, List.drop_succ_cons, List.cons_append, insD] at this ⊢
    rw [if_pos ha, this]
theorem sortD_snoc {xs : List Int} {k : Nat} {x : Int} (h : xs[k]? = some x) : sortD (xs.take (k + 1)) = insD x (sortD (xs.take k)) := by
  unfold sortD
  rw [List.take_add_one, h, List.foldl_append]; rfl
theorem insAt_done {S : List Int} (hd : desc S) {p : Nat} {x y : Int} (hy : S[p]? = some y) (hxy : x ≤ y) (h2 : ∀ y ∈ S.drop (p + 1), y < x) : insAt S (p + 1) x = insD x S := by
  refine insAt_insD (fun z hz => ?_) h2
  obtain ⟨i, hi, rfl⟩ := List.getElem_of_mem hz
  rw [List.length_take] at hi
  rw [List.getElem_take]
  obtain ⟨hp, rfl⟩ := List.getElem?_eq_some_iff.1 hy
  unfold desc at hd
  rw [List.pairwise_iff_getElem] at hd
  by_cases hip : i = p
  · subst hip; exact hxy
  · exact Int.le_trans hxy (hd i p (by omega) hp (by omega))
theorem drop_more {S : List Int} {p : Nat} {x y : Int} (hy : S[p]? = some y) (hxy : y < x) (h2 : ∀ y ∈ S.drop (p + 1), y < x) : ∀ y ∈ S.drop p, y < x := by
  intro z hz
  rw [List.drop_eq_getElem_cons (List.getElem?_eq_some_iff.1 hy).1] at hz
  rcases List.mem_cons.1 hz with e | hz
  · obtain ⟨hp, rfl⟩ := List.getElem?_eq_some_iff.1 hy
    rw [e]; exact hxy
  · exact h2 z hz
set_option maxRecDepth 100000 in
set_option maxHeartbeats 2000000 in
theorem SortedDown_s (v : Value) (xs : List Int) (w : World) (hv : Ints w v xs) (hl : xs.length ≤ 1048576) : Calls Try.prog 108 #[v] w (New 3 IntV w (sortD xs)) := by
  obtain ⟨a, cap0, rfl, -, hle, -, hc⟩ := hv
  go_enter Try.func108, Try.ntmps108
  go_wp2
  go_loopw [3, 11] (fun v i wr => ∃ k : Nat, k ≤ xs.length ∧ i = .int .i64 k ∧ Own 3 IntV (Iv w.heap.size wr.heap.size) wr v (sortD (xs.take k)) ∧ Below w.heap.size w wr) (fun _ i _ => xs.length - (intOf i).toNat)
  case atStart => exact ⟨0, Nat.zero_le _, rfl, own_lit0 _ _ _ rIntV, Below.pureAlloc _ _⟩
  case round =>
    obtain ⟨k, hk, rfl, hown, hbel⟩ := hrel
    obtain ⟨wo, rfl⟩ : ∃ wo : World, wo = wr := ⟨_, rfl⟩
    have hBs := hbel.size
    by_cases hlt : k < xs.length
    · obtain ⟨b, off, rfl, hb, hcc⟩ := hc (by omega)
      obtain ⟨x, hx⟩ : ∃ x, xs[k]? = some x := ⟨_, List.getElem?_eq_getElem hlt⟩
      obtain ⟨u, hck, rfl, hI⟩ := hcc k x hx
      rw [← hbel.cell (p := ⟨b, off + k, none⟩) hb] at hck
      obtain ⟨S, hS⟩ : ∃ S, S = sortD (xs.take k) := ⟨_, rfl⟩
      have hSl : S.length = k := by rw [hS, sortD_len, List.length_take]; omega
      have Hsn := Lib.hid (show sortD (xs.take (k + 1)) = insD x S from by rw [hS]; exact sortD_snoc hx)
      have Hd := Lib.hid (show desc S from by rw [hS]; exact sortD_desc _)
      rw [← hS] at hown
      have hkl : S.length < 1099511627776 := by omega
      obtain ⟨p1, p2, p3, rfl⟩ := hown.shape
      have Hown := Lib.hid hown
      have HSl := Lib.hid hSl
      clear hcc hx hc hown hS hSl
      go_wp2_with (first | (at_builtin; (refine wpList_appR rfl _ _ 25 rfl rIntV 3 Try.underlying25 infoInt rfl (by decide) w.heap.size wo.heap.size hBs (Nat.le_refl _) rfl rfl (by exact Hown.out) (by exact ⟨rfl, hI⟩) hkl ?_); intro v2 w2 hown2 hbel2 _; obtain ⟨g, cap, rfl, hg, hcap, hgs, -⟩ := hown2.inv_ne (by simp)) | fail)
      rw [show (S ++ [x]).length = k + 1 from by rw [List.length_append, HSl.out]; rfl] at hown2 hcap
      rw [HSl.out]
      have Hown2 := Lib.hid (show Own 3 IntV (Iv w.heap.size w2.heap.size) w2 (.slice (some ⟨g, 0, none⟩) (k + 1) cap) (insAt S k x) from by have h := insAt_end S x; rw [HSl.out] at h; rw [h]; exact hown2)
      have hbel2' := hbel.trans hbel2
      clear hown2 hbel hbel2
      go_wp2
      go_loopw [6] (fun pv wi => ∃ p : Nat, p ≤ k ∧ pv = .int .i64 p ∧ Hid (Own 3 IntV (Iv w.heap.size w2.heap.size) wi (.slice (some ⟨g, 0, none⟩) (k + 1) cap) (insAt S p x)) ∧ Hid (∀ y ∈ S.drop p, y < x) ∧ Below w.heap.size w wi ∧ wi.heap.size = w2.heap.size) (fun pv _ => (intOf pv).toNat)
      case atStart => exact ⟨k, Nat.le_refl _, by go_num, Hown2, (by intro y hy; rw [List.drop_eq_nil_of_le (by rw [HSl.out]; exact Nat.le_refl _)] at hy; cases hy), hbel2', rfl⟩
      case round =>
        clear Hown2 hbel2' hck
        obtain ⟨p, hp, rfl, Hown, Hgt, hbel, hsz⟩ := hrel
        have Hsz := Lib.hid hsz
        clear hsz
        cases p with
        | zero =>
          have Hfin := Lib.hid (show insAt S 0 x = insD x S from insAt_insD (by simp) (by simpa using Hgt.out))
          have HO := Lib.hid (show Own 3 IntV (Iv w.heap.size wr.heap.size) wr (.slice (some ⟨g, 0, none⟩) (k + 1) cap) (insD x S) from by rw [Hsz.out, ← Hfin.out]; exact Hown.out)
          go_wp2
          go_quiet (fail)
          go_wp2
          go_roundw
          case rel => exact ⟨k + 1, by omega, by go_num, by rw [Hsn.out]; exact HO.out, below_drewN hbel _⟩
          case measure => simp [intOf]; omega
        | succ p =>
          have hps : p < S.length := by rw [HSl.out]; omega
          obtain ⟨y, hy⟩ : ∃ y, S[p]? = some y := ⟨_, List.getElem?_eq_getElem hps⟩
          obtain ⟨c1, f1, I1⟩ := Hown.out.ints_cell (insAt_at (p := p + 1) (by omega) x)
          obtain ⟨c2, f2, I2⟩ := Hown.out.ints_cell (insAt_before hy x)
          have hIx := hI
          by_cases hxy : y < x
          · have hd1 : decide (y < x) = true := decide_eq_true hxy
            have Hmore := Lib.hid (drop_more hy hxy Hgt.out)
            have hset1 := Hown.out.setInt (k := p + 1) (by rw [insAt_len, HSl.out]; omega) I2
            have hset2 := hset1.setInt (k := p) (by rw [List.length_set, insAt_len, HSl.out]; omega) I1
            rw [insAt_swap hy] at hset2
            have Hset := Lib.hid hset2
            have c3 : (wr.setCell ⟨g, p + 1, none⟩ (.int .i64 y)).cell? ⟨g, p, none⟩ = some (.int .i64 y) := (hset1.ints_cell (by rw [List.getElem?_set_ne (by omega)]; exact insAt_before hy x)).1
            have f3 : (wr.setCell ⟨g, p + 1, none⟩ (.int .i64 y)).frozen? ⟨g, p, none⟩ = false := (hset1.ints_cell (by rw [List.getElem?_set_ne (by omega)]; exact insAt_before hy x)).2.1
            have hgB := hg.1
            have hz : ((p : Int) + 1) - 1 = (p : Int) := by omega
            clear hy hps hset1 hset2 Hown Hgt hxy
            go_wp2
            go_quiet (fail)
            go_wp2
            go_roundw
            case rel => exact ⟨p, by omega, by go_num, by exact Hset.out, Hmore, ((below_drewN hbel _).setCell (show w.heap.size ≤ (⟨g, p + 1, none⟩ : Addr).block from hgB) _).setCell (show w.heap.size ≤ (⟨g, p, none⟩ : Addr).block from hgB) _, by rw [size_setCell, size_setCell]; exact Hsz.out⟩
            case measure => simp [intOf]
          · have hd1 : decide (y < x) = false := decide_eq_false hxy
            have Hfin := Lib.hid (insAt_done Hd.out hy (by omega) Hgt.out)
            have HO := Lib.hid (show Own 3 IntV (Iv w.heap.size wr.heap.size) wr (.slice (some ⟨g, 0, none⟩) (k + 1) cap) (insD x S) from by rw [Hsz.out, ← Hfin.out]; exact Hown.out)
            clear hy hps hxy
            go_wp2
            go_quiet (fail)
            go_wp2
            go_roundw
            case rel => exact ⟨k + 1, by omega, by go_num, by rw [Hsn.out]; exact HO.out, below_drewN hbel _⟩
            case measure => simp [intOf]; omega
    · have e : k = xs.length := by omega
      have He := Lib.hid (show sortD (xs.take k) = sortD xs from by rw [e, List.take_length])
      have Hown := Lib.hid hown
      clear e hown
      go_wp2
      go_ret
      exact ⟨_, rfl, by rw [← He.out]; exact Hown.out, hbel⟩
end Go.Proofs.Ytliejhmlcdjpcaa

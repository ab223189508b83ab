/- Contracts: slices of slices: equal, marked, held, copied. -/
import Derived.Test.YtekgnpdchpdfiaaC2
namespace Go.Proofs.Ytekgnpdchpdfiaa
open Go.RowKit

theorem infoInts : (Try.prog.info? 41).map (fun i => (i.zero, i.size, i.bytes)) = some (some (.slice none 0 0), 1, 24) := by kernel_rfl

set_option maxHeartbeats 400000 in
theorem eqIntSS_q (v v2 : Value) (xs ys : List (List Int)) (w : World) (hv : Grid w v xs) (hv2 : Grid w v2 ys) : Calls Try.prog 13 #[v, v2] w fun e w' => e = .returned (.bool (decide (xs = ys))) ∧ ∃ n, w' = w.drewN n := by
  obtain ⟨a, cap, rfl, hcap, hle, -, hc⟩ := hv
  obtain ⟨a2, cap2, rfl, hcap2, hle2, -, hc2⟩ := hv2
  by_cases hl : xs.length = ys.length
  · have hl1 : xs.length ≤ ys.length := by omega
    have hl2 : ys.length ≤ xs.length := by omega
    have Hl := Lib.hid hl; clear hl
    go_enter Try.func13, Try.ntmps13
    go_wp2
    go_loopw [5] (fun i wr => ∃ k : Nat, k ≤ xs.length ∧ i = .int .i64 k ∧ xs.take k = ys.take k ∧ ∃ n, wr = w.drewN n) (fun i _ => xs.length - (intOf i).toNat)
    case atStart => exact ⟨0, Nat.zero_le _, rfl, rfl, 0, rfl⟩
    case round =>
      obtain ⟨k, hk, rfl, heq, n, hw⟩ := hrel
      have Heq := Lib.hid heq; clear heq
      by_cases hlt : k < xs.length
      · obtain ⟨b, off, rfl, hb, hc'⟩ := hc (by omega)
        obtain ⟨x, hx⟩ : ∃ x, xs[k]? = some x := ⟨_, List.getElem?_eq_getElem hlt⟩
        obtain ⟨u, hck, hu⟩ := hc' k x hx
        obtain ⟨b2, off2, rfl, hb2, hc2'⟩ := hc2 (by omega)
        obtain ⟨y, hy⟩ : ∃ y, ys[k]? = some y := ⟨_, List.getElem?_eq_getElem (by omega)⟩
        obtain ⟨u2, hck2, hu2⟩ := hc2' k y hy
        have hlt2 : k < ys.length := by omega
        have Hx := Lib.hid hx
        have Hy := Lib.hid hy
        have hu : Ints wr u x := by rw [hw]; exact hu
        have hu2 : Ints wr u2 y := by rw [hw]; exact hu2
        have hck : wr.cell? ⟨b, off + k, none⟩ = some u := by rw [hw]; exact hck
        have hck2 : wr.cell? ⟨b2, off2 + k, none⟩ = some u2 := by rw [hw]; exact hck2
        have Hw := Lib.hid hw
        clear hx hc hc' hy hc2 hc2' hw
        by_cases hxy : x = y
        · subst hxy
          have hd : ∀ m, Calls Try.prog 29 #[u, u2] (wr.drewN m) fun e w'' => e = .returned (.bool true) ∧ ∃ q, w'' = (wr.drewN m).drewN q := fun m => by
            have := eqIntS_q u u2 x x (wr.drewN m) hu hu2
            simpa only [decide_true] using this
          have Hd := Lib.hid hd; clear hd hu hu2
          go_wp2
          go_quiet ((go_at_call 29; exact Calls.quiet_of (Hd.out _)))
          go_wp2
          go_roundw
          case rel => exact ⟨k + 1, by omega, by go_num, take_step_eq Heq.out Hx.out Hy.out, quiet1 Hw.out _⟩
          case measure => simp [intOf]; omega
        · have hd : ∀ m, Calls Try.prog 29 #[u, u2] (wr.drewN m) fun e w'' => e = .returned (.bool false) ∧ ∃ q, w'' = (wr.drewN m).drewN q := fun m => by
            have := eqIntS_q u u2 x y (wr.drewN m) hu hu2
            simpa only [hxy, decide_false] using this
          have Hd := Lib.hid hd; clear hd hu hu2
          have Hxy := Lib.hid hxy; clear hxy
          go_wp2
          go_quiet ((go_at_call 29; exact Calls.quiet_of (Hd.out _)))
          go_wp2
          go_ret
          exact ⟨retB (Eq.symm (by simp; intro h; have h1 := Hx.out; rw [h, Hy.out] at h1; exact Hxy.out (Option.some.inj h1).symm)), quiet1 Hw.out _⟩
      · have Hw := Lib.hid hw; clear hw
        go_wp2
        go_ret
        exact ⟨retB (Eq.symm (by have h := Heq.out; have hl := Hl.out; rw [List.take_of_length_le (by omega), List.take_of_length_le (by omega)] at h; simp [h])), n, Hw.out⟩
  · have hne : decide (xs = ys) = false := by simp; intro h; exact hl (by rw [h])
    rw [hne]; clear hne
    have hl' : ((xs.length : Int) == (ys.length : Int)) = false := by simp; omega
    go_enter Try.func13, Try.ntmps13
    go_wp2
    go_ret
    exact ⟨rfl, 0, rfl⟩
theorem eqIntSS_c (v v2 : Value) (xs ys : List (List Int)) (w : World) (hv : Grid w v xs) (hv2 : Grid w v2 ys) : Calls Try.prog 13 #[v, v2] w fun e w' => e = .returned (.bool (decide (xs = ys))) ∧ Below w.heap.size w w' :=
  (eqIntSS_q v v2 xs ys w hv hv2).mono fun _ _ ⟨he, n, hn⟩ => ⟨he, by subst hn; exact below_drewN (Below.refl _ _) n⟩

/-- the number of cells -/
def cells (g : List (List Int)) : Nat := (g.map List.length).sum
/-- k, k + 1, .. in the rows of a grid -/
def gmarks : Int → List (List Int) → List (List Int)
  | _, [] => []
  | k, r :: g => marks k r.length :: gmarks (k + r.length) g
theorem gmarks_len (g : List (List Int)) : ∀ k, (gmarks k g).length = g.length := by
  induction g with
  | nil => intro k; rfl
  | cons r g ih => intro k; simp [gmarks, ih]
theorem cells_take {g : List (List Int)} {k : Nat} {r : List Int} (h : g[k]? = some r) : cells (g.take (k + 1)) = cells (g.take k) + r.length := by
  obtain ⟨hk, hx⟩ := List.getElem?_eq_some_iff.1 h
  rw [List.take_succ_eq_append_getElem hk, hx]; simp [cells]
theorem cells_take_le (g : List (List Int)) (k : Nat) : cells (g.take k) ≤ cells g := by
  have : cells g = cells (g.take k) + cells (g.drop k) := by
    have h : cells (g.take k ++ g.drop k) = cells (g.take k) + cells (g.drop k) := by unfold cells; rw [List.map_append, List.sum_append]
    rwa [List.take_append_drop] at h
  omega
theorem gmarks_at {g : List (List Int)} : ∀ {k : Int} {j : Nat} {r : List Int}, g[j]? = some r → (gmarks k g)[j]? = some (marks (k + cells (g.take j)) r.length) := by
  induction g with
  | nil => intro k j r h; simp at h
  | cons a g ih =>
    intro k j r h
    cases j with
    | zero => simp at h; subst h; simp [gmarks, cells]
    | succ j =>
      simp at h
      simp only [gmarks, List.getElem?_cons_succ]
      rw [ih h]
      congr 2
      simp [cells]
      omega

theorem markIntSS_c (v : Value) (xs : List (List Int)) (k : Int) (S : Bk) (w : World) (hv : Own 41 (Own 3 IntV) S w v xs) (hS : ∀ b, S b → b < w.heap.size) (hk0 : 0 ≤ k) (hk1 : k ≤ 1048576) (hlen : xs.length ≤ 1048576) (hcells : cells xs ≤ 1048576) :
    Calls Try.prog 16 #[v, .int .i64 k] w fun e w' => e = .returned (.int .i64 (k + cells xs)) ∧ Own 41 (Own 3 IntV) S w' v (gmarks k xs) ∧ Only S w w' ∧ w.heap.size = w'.heap.size := by
  rcases hv.inv with ⟨rfl, rfl⟩ | ⟨g, cap, rfl, hg, hcap, hgs, -⟩
  · go_enter Try.func16, Try.ntmps16
    go_wp2
    refine wp_loop_rounds 1 ?_
    rw [rounds_succ]
    go_wp2
    go_ret
    exact ⟨retI (by simp [cells]), Own.nil _ _ _ _, Only.refl _ _, rfl⟩
  · go_enter Try.func16, Try.ntmps16
    go_wp2
    have Hv : Own 41 (Own 3 IntV) S w (.slice (some ⟨g, 0, none⟩) xs.length cap) ((gmarks k xs).take 0 ++ xs.drop 0) := by simpa using hv
    clear hv
    go_loopw [1, 5] (fun n i wr => ∃ j : Nat, j ≤ xs.length ∧ i = .int .i64 j ∧ n = .int .i64 (k + cells (xs.take j)) ∧ Own 41 (Own 3 IntV) S wr (.slice (some ⟨g, 0, none⟩) xs.length cap) ((gmarks k xs).take j ++ xs.drop j) ∧ Only S w wr ∧ w.heap.size = wr.heap.size) (fun _ i _ => xs.length - (intOf i).toNat)
    case atStart => exact ⟨0, Nat.zero_le _, rfl, by simp [cells], Hv, Only.refl _ _, rfl⟩
    case round =>
      clear Hv
      obtain ⟨j, hj, rfl, rfl, hown, honly, hsz⟩ := hrel
      have hcj := cells_take_le xs j
      by_cases hlt : j < xs.length
      · obtain ⟨r, hr⟩ : ∃ r, xs[j]? = some r := ⟨_, List.getElem?_eq_getElem hlt⟩
        have hat : ((gmarks k xs).take j ++ xs.drop j)[j]? = some r := by
          rw [List.getElem?_append_right (by rw [List.length_take, gmarks_len]; omega), List.length_take, gmarks_len, Nat.min_eq_left (by omega), Nat.sub_self, List.getElem?_drop, Nat.add_zero, hr]
        have hct := cells_take hr
        have hcj2 := cells_take_le xs (j + 1)
        have hrl : r.length ≤ 1048576 := by omega
        obtain ⟨-, -, -, -, T, u, hcell, hu, hT, -, hback⟩ := hown.focus (rOwn rIntV) hat
        have hnew : ((gmarks k xs).take j ++ xs.drop j).set j (marks (k + cells (xs.take j)) r.length) = (gmarks k xs).take (j + 1) ++ xs.drop (j + 1) := by
          rw [List.set_append_right _ _ (by rw [List.length_take, gmarks_len]; omega), List.length_take, gmarks_len, Nat.min_eq_left (by omega), Nat.sub_self, List.drop_eq_getElem_cons hlt, List.set_cons_zero]
          obtain ⟨h1, h2⟩ := List.getElem?_eq_some_iff.1 (gmarks_at (k := k) hr)
          rw [List.take_succ_eq_append_getElem h1, h2]
          simp
        have hmark := markIntS_c u r (k + cells (xs.take j)) T wr hu (by omega) (by omega) (by omega)
        have Hmark := Lib.hid hmark
        have Hback := Lib.hid hback
        have Hnew := Lib.hid hnew
        have Hct := Lib.hid hct
        have Hsz := Lib.hid hsz
        have Hu := Lib.hid hu
        have HT := Lib.hid hT
        clear hown hat hr hct hback hnew hmark hsz hu hT
        go_wp2_with (fail)
        refine Hmark.out.mono ?_
        rintro e w1 ⟨rfl, hown1, honly1, hsz1⟩
        have Hsz1 := Lib.hid hsz1
        clear hsz1
        go_wp2
        go_roundw
        case rel =>
          refine ⟨j + 1, by omega, by go_num, ?_, ?_, ?_, by rw [Hsz.out, Hsz1.out]⟩
          · rw [Hct.out]; congr 1; omega
          · rw [← Hnew.out]
            exact Hback.out w1 _ (fun b hb hnb => honly1.block b (by have := hS b hb; rw [← Hsz.out]; exact this) hnb) hown1
          · exact honly.trans' (honly1.mono fun b hb _ => .inl (HT.out b hb).1)
        case measure => simp [intOf]; omega
      · have Hown := Lib.hid hown
        have Hsz := Lib.hid hsz
        clear hown hsz
        go_wp2
        go_ret
        obtain rfl : j = xs.length := by omega
        refine ⟨retI (by rw [List.take_length]), ?_, honly, Hsz.out⟩
        have h := Hown.out
        rw [List.take_of_length_le (by rw [gmarks_len]; exact Nat.le_refl _)] at h
        simpa using h
theorem heldIntSS_c (v : Value) (xs : List (List Int)) (k : Int) (w : World) (hv : Grid w v (gmarks k xs)) (hk0 : 0 ≤ k) (hk1 : k ≤ 1048576) (hlen : xs.length ≤ 1048576) (hcells : cells xs ≤ 1048576) :
    Calls Try.prog 17 #[v, .int .i64 k] w fun e w' => e = .returned (.int .i64 (k + cells xs)) ∧ w = w' := by
  obtain ⟨a, cap, rfl, hcap, hle, -, hc⟩ := hv
  rw [gmarks_len] at hcap hle hc ⊢
  go_enter Try.func17, Try.ntmps17
  go_wp2
  go_loop [1, 5] (fun m i => ∃ j : Nat, j ≤ xs.length ∧ i = .int .i64 j ∧ m = .int .i64 (k + cells (xs.take j))) (fun _ i => xs.length - (intOf i).toNat)
  case atStart => exact ⟨0, Nat.zero_le _, rfl, by simp [cells]⟩
  case round =>
    obtain ⟨j, hj, rfl, rfl⟩ := hrel
    have hcj := cells_take_le xs j
    by_cases hlt : j < xs.length
    · obtain ⟨r, hr⟩ : ∃ r, xs[j]? = some r := ⟨_, List.getElem?_eq_getElem hlt⟩
      obtain ⟨b, off, rfl, -, hc'⟩ := hc (by omega)
      obtain ⟨u, hck, hu⟩ := hc' j _ (gmarks_at hr)
      have hu : Ints w u _ := hu
      have hct := cells_take hr
      have hcj2 := cells_take_le xs (j + 1)
      have hcall := heldIntS_c u r.length (k + cells (xs.take j)) w hu (by omega) (by omega) (by omega)
      have Hcall := Lib.hid hcall
      have Hct := Lib.hid hct
      have hpos : 0 ≤ k + (cells (xs.take j) : Int) + r.length := by omega
      clear hc hc' hr hct hu hcall
      go_wp2_with (fail)
      refine Hcall.out.mono ?_
      rintro e w' ⟨rfl, rfl⟩
      go_wp2
      go_round
      case rel => exact ⟨j + 1, by omega, by go_num, by rw [Hct.out]; congr 1; omega⟩
      case measure => simp [intOf]; omega
    · go_wp2
      go_ret
      obtain rfl : j = xs.length := by omega
      exact ⟨retI (by rw [List.take_length]), rfl⟩
end Go.Proofs.Ytekgnpdchpdfiaa

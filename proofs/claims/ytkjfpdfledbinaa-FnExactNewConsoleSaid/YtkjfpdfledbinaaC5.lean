/- Contracts: NewConsole and the comparison of consoles. -/
import Derived.Test.YtkjfpdfledbinaaC4
namespace Go.Proofs.Ytkjfpdfledbinaa
open Go.RowKit

/-- a console's three slices, each its own -/
def OwnCons (S : Bk) (w : World) (a b c : Value) (m : List (List Int)) (r k : List Int) : Prop :=
  ∃ Sa Sb Sc : Bk, (∀ x, Sa x → S x) ∧ (∀ x, Sb x → S x) ∧ (∀ x, Sc x → S x) ∧ (∀ x, Sa x → ¬ Sb x) ∧ (∀ x, Sa x → ¬ Sc x) ∧ (∀ x, Sb x → ¬ Sc x) ∧
    Own 22 (Own 3 IntV) Sa w a m ∧ Own 3 IntV Sb w b r ∧ Own 3 IntV Sc w c k

theorem OwnCons.keep {lo hi : Nat} {w w' : World} {a b c : Value} {m : List (List Int)} {r k : List Int} (h : OwnCons (Iv lo hi) w a b c m r k) (hb : Below w.heap.size w w') (hh : hi ≤ w.heap.size) : OwnCons (Iv lo hi) w' a b c m r k := by
  obtain ⟨Sa, Sb, Sc, h1, h2, h3, h4, h5, h6, o1, o2, o3⟩ := h
  exact ⟨Sa, Sb, Sc, h1, h2, h3, h4, h5, h6, (rOwn (rOwn rIntV)).same (sameOn_below hb fun b hb => by have := (h1 b hb).2; omega) o1, (rOwn rIntV).same (sameOn_below hb fun b hb => by have := (h2 b hb).2; omega) o2, (rOwn rIntV).same (sameOn_below hb fun b hb => by have := (h3 b hb).2; omega) o3⟩
theorem OwnCons.only {S T : Bk} {w w' : World} {a b c : Value} {m : List (List Int)} {r k : List Int} (h : OwnCons S w a b c m r k) (ho : Only T w w') (hh : ∀ b, S b → b < w.heap.size) (hd : ∀ b, S b → ¬ T b) : OwnCons S w' a b c m r k := by
  obtain ⟨Sa, Sb, Sc, h1, h2, h3, h4, h5, h6, o1, o2, o3⟩ := h
  exact ⟨Sa, Sb, Sc, h1, h2, h3, h4, h5, h6, (rOwn (rOwn rIntV)).same (ho.same (fun b hb => hd b (h1 b hb)) fun b hb => hh b (h1 b hb)) o1,
    (rOwn rIntV).same (ho.same (fun b hb => hd b (h2 b hb)) fun b hb => hh b (h2 b hb)) o2, (rOwn rIntV).same (ho.same (fun b hb => hd b (h3 b hb)) fun b hb => hh b (h3 b hb)) o3⟩
theorem OwnCons.reads {S : Bk} {w : World} {a b c : Value} {m : List (List Int)} {r k : List Int} (h : OwnCons S w a b c m r k) : Grid w a m ∧ Ints w b r ∧ Ints w c k := by
  obtain ⟨Sa, Sb, Sc, h1, h2, h3, h4, h5, h6, o1, o2, o3⟩ := h
  exact ⟨o1.grid, o2.ints, o3.ints⟩

theorem OwnCons.shape {S : Bk} {w : World} {a b c : Value} {m : List (List Int)} {r k : List Int} (h : OwnCons S w a b c m r k) : (∃ x y z, a = .slice x y z) ∧ (∃ x y z, b = .slice x y z) ∧ (∃ x y z, c = .slice x y z) := by
  obtain ⟨Sa, Sb, Sc, h1, h2, h3, h4, h5, h6, o1, o2, o3⟩ := h
  exact ⟨o1.shape, o2.shape, o3.shape⟩
theorem own_lit1 {w : World} {E g : Nat} {n : Int} {S : Bk} (h : w.heap[g]? = some (.cells #[.int .i64 n] E)) (hn : I64 n) (hS : S g) : Own E IntV S w (.slice (some ⟨g, 0, none⟩) 1 1) [n] :=
  .inr ⟨g, #[.int .i64 n], rfl, hS, h, by simp, by simp [maxLen], by simp, fun _ _ => False, fun _ _ h => h.elim, fun _ _ _ h => h.elim, fun k x hk => by
    cases k with
    | zero => simp at hk; subst hk; exact ⟨_, rfl, rfl, hn⟩
    | succ k => simp at hk⟩
theorem own_lit1g {w : World} {E E' g r : Nat} {n : Int} {S : Bk} (h : w.heap[g]? = some (.cells #[.slice (some ⟨r, 0, none⟩) 1 1] E)) (h2 : w.heap[r]? = some (.cells #[.int .i64 n] E')) (hn : I64 n) (hS : S g) (hS2 : S r) (hne : r ≠ g) : Own E (Own E' IntV) S w (.slice (some ⟨g, 0, none⟩) 1 1) [[n]] :=
  .inr ⟨g, #[.slice (some ⟨r, 0, none⟩) 1 1], rfl, hS, h, by simp, by simp [maxLen], by simp, fun k b => k = 0 ∧ b = r, fun k b hb => ⟨by rw [hb.2]; exact hS2, by rw [hb.2]; exact hne⟩, fun i j b h1 h2 => by rw [h1.1, h2.1], fun k x hk => by
    cases k with
    | zero => simp at hk; subst hk; exact ⟨_, rfl, own_lit1 h2 hn ⟨rfl, rfl⟩⟩
    | succ k => simp at hk⟩

theorem NewConsole_spec.NewConsole (w : World) : Calls Try.prog 18 #[] w fun e w' => ∃ a b c, e = .returned (.agg #[a, b, c]) ∧ OwnCons (Iv w.heap.size w'.heap.size) w' a b c [[0]] [0] [0] ∧ Below w.heap.size w w' := by
  go_enter Try.func18, Try.ntmps18
  go_wp2
  refine bodyPost_ret (v := .agg #[.slice (some ⟨w.heap.size + 2, 0, none⟩) 1 1, .slice (some ⟨w.heap.size + 3, 0, none⟩) 1 1, .slice (some ⟨w.heap.size + 4, 0, none⟩) 1 1]) (by simp [results, Try.results18, go_sem]) rfl ⟨_, _, _, rfl, ?_, ?_⟩
  · refine ⟨Iv w.heap.size (w.heap.size + 3), Iv (w.heap.size + 3) (w.heap.size + 4), Iv (w.heap.size + 4) (w.heap.size + 5), ?_, ?_, ?_, ?_, ?_, ?_, own_lit1g (r := w.heap.size + 1) ?_ ?_ (I64.small (by decide) (by decide)) ⟨by omega, by omega⟩ ⟨by omega, by omega⟩ (by omega), own_lit1 ?_ (I64.small (by decide) (by decide)) ⟨by omega, by omega⟩, own_lit1 ?_ (I64.small (by decide) (by decide)) ⟨by omega, by omega⟩⟩
    · intro x hx; have := hx.1; have := hx.2; exact ⟨by omega, by simp; omega⟩
    · intro x hx; have := hx.1; have := hx.2; exact ⟨by omega, by simp; omega⟩
    · intro x hx; have := hx.1; have := hx.2; exact ⟨by omega, by simp; omega⟩
    · intro x hx hy; have := hx.2; have := hy.1; omega
    · intro x hx hy; have := hx.2; have := hy.1; omega
    · intro x hx hy; have := hx.2; have := hy.1; omega
    · show ((((w.heap.push _).push _).push _).push _ |>.push _)[_]? = _
      simp only [Array.getElem?_push, Array.size_push]
      repeat (first | rw [if_pos trivial] | rw [if_neg (by omega)] | rw [if_pos (by omega)])
    · show ((((w.heap.push _).push _).push _).push _ |>.push _)[_]? = _
      simp only [Array.getElem?_push, Array.size_push]
      repeat (first | rw [if_pos trivial] | rw [if_neg (by omega)] | rw [if_pos (by omega)])
    · show ((((w.heap.push _).push _).push _).push _ |>.push _)[_]? = _
      simp only [Array.getElem?_push, Array.size_push]
      repeat (first | rw [if_pos trivial] | rw [if_neg (by omega)] | rw [if_pos (by omega)])
    · show ((((w.heap.push _).push _).push _).push _ |>.push _)[_]? = _
      simp only [Array.getElem?_push, Array.size_push]
      repeat (first | rw [if_pos trivial] | rw [if_neg (by omega)] | rw [if_pos (by omega)])
  · exact ((((((Below.refl _ _).alloc (Nat.le_refl _) _).alloc (by simp) _).alloc (by simp; omega) _).alloc (by simp; omega) _).alloc (by simp; omega) _)
theorem NewConsole_impl.NewConsole (w : World) : Calls Try.prog 19 #[] w fun e w' => ∃ a b c, e = .returned (.agg #[a, b, c]) ∧ OwnCons (Iv w.heap.size w'.heap.size) w' a b c [[0]] [0] [0] ∧ Below w.heap.size w w' := by
  go_enter Try.func19, Try.ntmps19
  go_wp2
  refine bodyPost_ret (v := .agg #[.slice (some ⟨w.heap.size + 2, 0, none⟩) 1 1, .slice (some ⟨w.heap.size + 3, 0, none⟩) 1 1, .slice (some ⟨w.heap.size + 4, 0, none⟩) 1 1]) (by simp [results, Try.results19, go_sem]) rfl ⟨_, _, _, rfl, ?_, ?_⟩
  · refine ⟨Iv w.heap.size (w.heap.size + 3), Iv (w.heap.size + 3) (w.heap.size + 4), Iv (w.heap.size + 4) (w.heap.size + 5), ?_, ?_, ?_, ?_, ?_, ?_, own_lit1g (r := w.heap.size + 1) ?_ ?_ (I64.small (by decide) (by decide)) ⟨by omega, by omega⟩ ⟨by omega, by omega⟩ (by omega), own_lit1 ?_ (I64.small (by decide) (by decide)) ⟨by omega, by omega⟩, own_lit1 ?_ (I64.small (by decide) (by decide)) ⟨by omega, by omega⟩⟩
    · intro x hx; have := hx.1; have := hx.2; exact ⟨by omega, by simp; omega⟩
    · intro x hx; have := hx.1; have := hx.2; exact ⟨by omega, by simp; omega⟩
    · intro x hx; have := hx.1; have := hx.2; exact ⟨by omega, by simp; omega⟩
    · intro x hx hy; have := hx.2; have := hy.1; omega
    · intro x hx hy; have := hx.2; have := hy.1; omega
    · intro x hx hy; have := hx.2; have := hy.1; omega
    · show ((((w.heap.push _).push _).push _).push _ |>.push _)[_]? = _
      simp only [Array.getElem?_push, Array.size_push]
      repeat (first | rw [if_pos trivial] | rw [if_neg (by omega)] | rw [if_pos (by omega)])
    · show ((((w.heap.push _).push _).push _).push _ |>.push _)[_]? = _
      simp only [Array.getElem?_push, Array.size_push]
      repeat (first | rw [if_pos trivial] | rw [if_neg (by omega)] | rw [if_pos (by omega)])
    · show ((((w.heap.push _).push _).push _).push _ |>.push _)[_]? = _
      simp only [Array.getElem?_push, Array.size_push]
      repeat (first | rw [if_pos trivial] | rw [if_neg (by omega)] | rw [if_pos (by omega)])
    · show ((((w.heap.push _).push _).push _).push _ |>.push _)[_]? = _
      simp only [Array.getElem?_push, Array.size_push]
      repeat (first | rw [if_pos trivial] | rw [if_neg (by omega)] | rw [if_pos (by omega)])
  · exact ((((((Below.refl _ _).alloc (Nat.le_refl _) _).alloc (by simp) _).alloc (by simp; omega) _).alloc (by simp; omega) _).alloc (by simp; omega) _)

theorem eqConsole_c (a b c a' b' c' : Value) (m m' : List (List Int)) (r k r' k' : List Int) (w : World) (h1 : Grid w a m) (h2 : Ints w b r) (h3 : Ints w c k) (h1' : Grid w a' m') (h2' : Ints w b' r') (h3' : Ints w c' k') :
    Calls Try.prog 20 #[.agg #[a, b, c], .agg #[a', b', c']] w fun e w' => e = .returned (.bool (decide (m = m') && decide (r = r') && decide (k = k'))) ∧ Below w.heap.size w w' := by
  have hb : ∀ o1 o2 n, Below w.heap.size w (((w.alloc o1).alloc o2).drewN n) := fun o1 o2 n => below_drewN (((Below.refl _ _).alloc (Nat.le_refl _) _).alloc (by simp) _) _
  have Hb := Lib.hid hb; clear hb
  go_enter Try.func20, Try.ntmps20
  go_wp2_with (fail)
  refine (eqIntSS_q _ _ _ _ _ (h1.keep (Hb.out _ _ 0)) (h1'.keep (Hb.out _ _ 0))).mono ?_
  rintro e w' ⟨rfl, n, rfl⟩
  cases he : decide (m = m')
  · go_wp2
    go_ret
    exact ⟨retB (by rw [he]; simp), Hb.out _ _ _⟩
  have He := Lib.hid he
  go_wp2_with (fail)
  refine (eqIntS_q _ _ _ _ _ (h2.keep (Hb.out _ _ _)) (h2'.keep (Hb.out _ _ _))).mono ?_
  rintro e w' ⟨rfl, n1, rfl⟩
  cases he2 : decide (r = r')
  · go_wp2
    go_ret
    exact ⟨retB (by rw [he2]; simp), by simpa using Hb.out _ _ _⟩
  have He2 := Lib.hid he2
  go_wp2_with (fail)
  refine (eqIntS_q _ _ _ _ _ (h3.keep (by simpa using Hb.out _ _ _)) (h3'.keep (by simpa using Hb.out _ _ _))).mono ?_
  rintro e w' ⟨rfl, n2, rfl⟩
  cases he3 : decide (k = k')
  · go_wp2
    go_ret
    exact ⟨retB (by rw [he3]; simp), by simpa using Hb.out _ _ _⟩
  · go_wp2
    go_ret
    exact ⟨retB (by rw [He.out, He2.out, he3]; rfl), by simpa using Hb.out _ _ _⟩
set_option maxHeartbeats 400000 in
theorem markConsole_c (a b c : Value) (m : List (List Int)) (r k : List Int) (n : Int) (S : Bk) (w : World) (h : OwnCons S w a b c m r k) (hS : ∀ x, S x → x < w.heap.size) (hn0 : 0 ≤ n) (hn1 : n ≤ 1024) (hl : m.length ≤ 1048576) (hcells : cells m ≤ 1000000) (hr : r.length ≤ 1000000) (hk : k.length ≤ 1000000) :
    Calls Try.prog 21 #[.agg #[a, b, c], .int .i64 n] w fun e w' => e = .returned (.int .i64 (n + cells m + r.length + k.length)) ∧ OwnCons S w' a b c (gmarks n m) (marks (n + cells m) r.length) (marks (n + cells m + r.length) k.length) ∧ Only S w w' := by
  obtain ⟨Sa, Sb, Sc, h1, h2, h3, h4, h5, h6, o1, o2, o3⟩ := h
  have hbox : ∀ o, Below w.heap.size w (w.alloc o) := fun o => Below.pureAlloc w o
  go_enter Try.func21, Try.ntmps21
  go_wp2_with (fail)
  refine (markIntSS_c _ _ _ Sa _ ((rOwn (rOwn rIntV)).same (sameOn_below (hbox _) fun x hx => hS x (h1 x hx)) o1) (fun x hx => by have := hS x (h1 x hx); simp; omega) (by omega) (by omega) (by omega) (by omega)).mono ?_
  rintro e w1 ⟨rfl, p1, q1, z1⟩
  have hz1 : w1.heap.size = w.heap.size + 1 := by rw [← z1]; simp
  have Hz1 := Lib.hid hz1
  have k0 : ∀ j, w1.cell? ⟨w.heap.size, j, none⟩ = #[a, b, c][j]? := fun j => by
    rw [q1.cell (p := ⟨w.heap.size, j, none⟩) (by simp) (fun hx => by have := hS _ (h1 _ hx); simp at this)]
    exact cell_of_row _ _ _ _ _ _ (heap_alloc_new w _)
  have k1 : w1.cell? ⟨w.heap.size, 1, none⟩ = some b := k0 1
  have k2 : w1.cell? ⟨w.heap.size, 2, none⟩ = some c := k0 2
  have o2' := (rOwn rIntV).same (q1.same (T := Sb) (fun x hx hy => h4 x hy hx) (fun x hx => by have := hS x (h2 x hx); simp; omega)) ((rOwn rIntV).same (sameOn_below (hbox _) fun x hx => hS x (h2 x hx)) o2)
  have o3' := (rOwn rIntV).same (q1.same (T := Sc) (fun x hx hy => h5 x hy hx) (fun x hx => by have := hS x (h3 x hx); simp; omega)) ((rOwn rIntV).same (sameOn_below (hbox _) fun x hx => hS x (h3 x hx)) o3)
  have K2 := Lib.hid k2
  clear k0 k2 hz1 z1
  go_wp2_with (fail)
  refine (markIntS_c _ _ _ Sb _ o2' (by omega) (by omega) (by omega)).mono ?_
  rintro e w2 ⟨rfl, p2, q2, z2⟩
  have Z2 := Lib.hid z2; clear z2
  have k2 : w2.cell? ⟨w.heap.size, 2, none⟩ = some c := by
    rw [q2.cell (p := ⟨w.heap.size, 2, none⟩) (by rw [Hz1.out]; simp) (fun hx => by have := hS _ (h2 _ hx); simp at this)]; exact K2.out
  have o3'' := (rOwn rIntV).same (q2.same (T := Sc) (fun x hx hy => h6 x hy hx) (fun x hx => by have := hS x (h3 x hx); rw [Hz1.out]; omega)) o3'
  have p1' := (rOwn (rOwn rIntV)).same (q2.same (T := Sa) (fun x hx hy => h4 x hx hy) (fun x hx => by have := hS x (h1 x hx); rw [Hz1.out]; omega)) p1
  go_wp2_with (fail)
  refine (markIntS_c _ _ _ Sc _ o3'' (by omega) (by omega) (by omega)).mono ?_
  rintro e w3 ⟨rfl, p3, q3, z3⟩
  have Z3 := Lib.hid z3; clear z3
  have p1'' := (rOwn (rOwn rIntV)).same (q3.same (T := Sa) (fun x hx hy => h5 x hx hy) (fun x hx => by have := hS x (h1 x hx); rw [← Z2.out, Hz1.out]; omega)) p1'
  have p2' := (rOwn rIntV).same (q3.same (T := Sb) (fun x hx hy => h6 x hx hy) (fun x hx => by have := hS x (h2 x hx); rw [← Z2.out, Hz1.out]; omega)) p2
  have hall : Only S w w3 := (((Only.of_pure (hbox _) S).trans' (q1.mono fun x hx _ => .inl (h1 x hx))).trans' (q2.mono fun x hx _ => .inl (h2 x hx))).trans' (q3.mono fun x hx _ => .inl (h3 x hx))
  go_wp2
  go_ret
  exact ⟨rfl, ⟨Sa, Sb, Sc, h1, h2, h3, h4, h5, h6, p1'', p2', p3⟩, hall⟩
set_option maxHeartbeats 400000 in
theorem heldConsole_c (a b c : Value) (m : List (List Int)) (r k : Nat) (n : Int) (w : World) (h1 : Grid w a (gmarks n m)) (h2 : Ints w b (marks (n + cells m) r)) (h3 : Ints w c (marks (n + cells m + r) k)) (hn0 : 0 ≤ n) (hn1 : n ≤ 1024) (hl : m.length ≤ 1048576) (hcells : cells m ≤ 1000000) (hr : r ≤ 1000000) (hk : k ≤ 1000000) :
    Calls Try.prog 22 #[.agg #[a, b, c], .int .i64 n] w fun e w' => e = .returned (.int .i64 (n + cells m + r + k)) ∧ Below w.heap.size w w' := by
  have hb : ∀ o, Below w.heap.size w (w.alloc o) := fun o => Below.pureAlloc w o
  have Hb := Lib.hid hb; clear hb
  go_enter Try.func22, Try.ntmps22
  go_wp2_with (fail)
  refine (heldIntSS_c _ _ _ _ (h1.keep (Hb.out _)) (by omega) (by omega) (by omega) (by omega)).mono ?_
  rintro e w' ⟨rfl, rfl⟩
  have t1 : 0 ≤ n + (cells m : Int) := by omega
  go_wp2_with (fail)
  refine (heldIntS_c _ _ _ _ (h2.keep (Hb.out _)) (by omega) (by omega) (by omega)).mono ?_
  rintro e w' ⟨rfl, rfl⟩
  have t2 : 0 ≤ n + (cells m : Int) + r := by omega
  go_wp2_with (fail)
  refine (heldIntS_c _ _ _ _ (h3.keep (Hb.out _)) (by omega) (by omega) (by omega)).mono ?_
  rintro e w' ⟨rfl, rfl⟩
  have t3 : 0 ≤ n + (cells m : Int) + r + k := by omega
  go_wp2
  go_ret
  exact ⟨rfl, Hb.out _⟩
end Go.Proofs.Ytkjfpdfledbinaa

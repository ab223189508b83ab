/- Plain: masks, the images that meet them, and the conflicts of rectangles. -/
import Derived.Test.YtlmjpmdkifoekaaDoorPath
import Derived.Test.YtlmjpmdkifoekaaDoorD3
import Derived.Test.YtlmjpmdkifoekaaDoorE3
namespace Go.Proofs.YtlmjpmdkifoekaaDoor
open Go.RowKit

def sizeB (m : List (List Int)) (rows cols lo hi : Int) : Bool := decide ((m.length : Int) = rows) && m.all (fun row => decide ((row.length : Int) = cols) && row.all (inR lo hi))
def maskOk (g : List (List Int)) (xs ys : List Int) : Bool := sumsOk xs ys && sizeB g xs.length ys.length (-1) 1
theorem sizeB_rect {g : List (List Int)} {r c : Nat} : sizeB g r c (-1) 1 = true ↔ TRect r c g := by
  unfold sizeB TRect
  simp only [Bool.and_eq_true, decide_eq_true_eq, List.all_eq_true, inR_iff]
  constructor
  · rintro ⟨h1, h2⟩
    exact ⟨by omega, fun row hr => ⟨by have := (h2 row hr).1; omega, (h2 row hr).2⟩⟩
  · rintro ⟨h1, h2⟩
    exact ⟨by omega, fun row hr => ⟨by have := (h2 row hr).1; omega, (h2 row hr).2⟩⟩
theorem sumsOk_sz {xs ys : List Int} (h : sumsOk xs ys = true) : 1 ≤ xs.length ∧ xs.length ≤ 5 ∧ 1 ≤ ys.length ∧ ys.length ≤ 5 := by
  unfold sumsOk at h
  simp only [Bool.and_eq_true, inR_iff] at h
  omega
theorem maskOk_grid {g : List (List Int)} {xs ys : List Int} (h : sumsOk xs ys = true) : maskOk g xs ys = (gridOkB (-1) 1 g && decide (g.length = xs.length) && decide ((g.headD []).length = ys.length)) := by
  obtain ⟨h1, h2, h3, h4⟩ := sumsOk_sz h
  unfold maskOk
  rw [h, Bool.true_and, Bool.eq_iff_iff, sizeB_rect]
  unfold TRect gridOkB rowOk
  simp only [Bool.and_eq_true, decide_eq_true_eq, List.all_eq_true, inR_iff]
  constructor
  · rintro ⟨e1, e2⟩
    obtain ⟨hd, l, rfl⟩ : ∃ a l, g = a :: l := by
      cases g with
      | nil => simp at e1; omega
      | cons a l => exact ⟨a, l, rfl⟩
    have e3 := (e2 hd (by simp)).1
    simp only [List.headD_cons]
    refine ⟨⟨⟨⟨by omega, by omega⟩, fun row hr => ⟨⟨by rw [(e2 row hr).1, e3], ?_, ?_⟩, (e2 row hr).2⟩⟩, e1⟩, e3⟩ <;> have := (e2 row hr).1 <;> omega
  · rintro ⟨⟨⟨-, e2⟩, e1⟩, e3⟩
    exact ⟨e1, fun row hr => ⟨by rw [(e2 row hr).1.1, e3], (e2 row hr).2⟩⟩
theorem TRect.bd {r c : Nat} {g : List (List Int)} (h : TRect r c g) {y x : Nat} (hy : y < r) (hx : x < c) : -1 ≤ at2 g y x ∧ at2 g y x ≤ 1 := by
  obtain ⟨-, h2, h3⟩ := h.row hy
  exact h3 _ (List.mem_of_getElem? (gD_at 0 (l := g.getD y []) (i := x) (by omega)))
theorem Shape.trectM {r c : Nat} {g : List (List Int)} (h : Shape r c g) : TRect r c g := ⟨h.1, fun row hr => ⟨(h.2 row hr).1, fun x hx => by have := (h.2 row hr).2 x hx; omega⟩⟩
def meetsB (r c : Nat) (m g : List (List Int)) : Bool := decide (∀ y, y < r → ∀ x, x < c → at2 g y x = -1 ∨ at2 g y x = at2 m y x)
theorem imgsOf_okM {xs ys : List Int} (h : sumsOk xs ys = true) : imgsOf xs ys = allImgs xs ys := by unfold imgsOf; rw [h]; rfl
def maskedOf (g : List (List Int)) (xs ys : List Int) : List (List (List Int)) := (imgsOf xs ys).filter fun m => meetsB xs.length ys.length m g
def mLow (g : List (List Int)) (y x : Nat) : Int := if at2 g y x = 1 then 1 else 0
def mUp (g : List (List Int)) (y x : Nat) : Int := if at2 g y x = 0 then 0 else 1
theorem meets_bounds {r c : Nat} {m g : List (List Int)} (hg : TRect r c g) (hm : Shape r c m) : meetsB r c m g = true ↔ ∀ i j, i < r → j < c → mLow g i j ≤ at2 m i j ∧ at2 m i j ≤ mUp g i j := by
  unfold meetsB
  rw [decide_eq_true_eq]
  constructor
  · intro h i j hi hj
    have h1 := h i hi j hj
    have h2 := hg.bd hi hj
    have h4 := (at2_bits hm i j)
    unfold mLow mUp
    split <;> split <;> omega
  · intro h y hy x hx
    have h1 := h y x hy hx
    have h2 := hg.bd hy hx
    have h4 := (at2_bits hm y x)
    unfold mLow mUp at h1
    split at h1 <;> split at h1 <;> omega
theorem need_congr {r c : Nat} {R C : Nat → Int} {l u : Nat → Nat → Int} {A B A' B' : Nat → Bool} (hA : ∀ i, i < r → A i = A' i) (hB : ∀ j, j < c → B j = B' j) : need r c R C l u A B = need r c R C l u A' B' := by
  unfold need
  rw [rs_congr (f := fun i => if A i then R i else 0) (g := fun i => if A' i then R i else 0) (fun i hi => by simp only [hA i hi]), rs_congr (f := fun j => if B j then C j else 0) (g := fun j => if B' j then C j else 0) (fun j hj => by simp only [hB j hj]),
    rs_congr (f := fun i => rs c fun j => gc (A i) (B j) (l i j) (u i j)) (g := fun i => rs c fun j => gc (A' i) (B' j) (l i j) (u i j)) (fun i hi => rs_congr fun j hj => by rw [hA i hi, hB j hj])]
def needOf (g : List (List Int)) (xs ys : List Int) (a b : Nat) : Int := need xs.length ys.length (fn1 xs) (fn1 ys) (mLow g) (mUp g) (fun i => a.testBit i) (fun j => b.testBit j)
def confB (g : List (List Int)) (xs ys : List Int) (a b : Nat) : Bool := decide (0 < needOf g xs ys a b)
def badOf (f : Nat → Nat → Bool) (R C : Nat) : Option (Nat × Nat) := ((List.range (R * C)).find? fun n => f (n / C) (n % C)).map fun n => (n / C, n % C)
theorem badOf_some {f : Nat → Nat → Bool} {R C a b : Nat} (ha : a < R) (hb : b < C) (h : f a b = true) (hn : ∀ n, n < a * C + b → f (n / C) (n % C) = false) : badOf f R C = some (a, b) := by
  have e1 : (a * C + b) / C = a := by
    rw [Nat.mul_comm, Nat.mul_add_div (by omega), Nat.div_eq_of_lt hb]; rfl
  have e2 : (a * C + b) % C = b := by
    rw [Nat.mul_comm, Nat.mul_add_mod, Nat.mod_eq_of_lt hb]
  have h3 : a * C + b < R * C := by
    have : (a + 1) * C ≤ R * C := Nat.mul_le_mul_right C ha
    rw [Nat.add_mul, Nat.one_mul] at this
    omega
  unfold badOf
  rw [List.find?_range_eq_some.2 ⟨by rw [e1, e2]; exact h, List.mem_range.2 h3, fun j hj => by rw [hn j hj]; rfl⟩, Option.map_some, e1, e2]
theorem badOf_none {f : Nat → Nat → Bool} {R C : Nat} (hn : ∀ n, n < R * C → f (n / C) (n % C) = false) : badOf f R C = none := by
  unfold badOf
  rw [List.find?_range_eq_none.2 fun j hj => by rw [hn j hj]; rfl]; rfl
theorem badOf_all {f : Nat → Nat → Bool} {R C : Nat} (hn : ∀ a b, f a b = false) : badOf f R C = none := badOf_none fun _ _ => hn _ _
theorem badOf_yes {f : Nat → Nat → Bool} {R C a b : Nat} (ha : a < R) (hb : b < C) (h : f a b = true) : ∃ a b, badOf f R C = some (a, b) ∧ a < R ∧ b < C ∧ f a b = true := by
  cases e : (List.range (R * C)).find? fun n => f (n / C) (n % C) with
  | none =>
    have h1 := List.find?_range_eq_none.1 e (a * C + b) (by
      have : (a + 1) * C ≤ R * C := Nat.mul_le_mul_right C ha
      rw [Nat.add_mul, Nat.one_mul] at this
      omega)
    have e1 : (a * C + b) / C = a := by
      rw [Nat.mul_comm, Nat.mul_add_div (by omega), Nat.div_eq_of_lt hb]; rfl
    have e2 : (a * C + b) % C = b := by
      rw [Nat.mul_comm, Nat.mul_add_mod, Nat.mod_eq_of_lt hb]
    rw [e1, e2, h] at h1
    cases h1
  | some n =>
    obtain ⟨h1, h2, -⟩ := List.find?_range_eq_some.1 e
    have hlt := List.mem_range.1 h2
    refine ⟨n / C, n % C, by unfold badOf; rw [e]; rfl, ?_, Nat.mod_lt _ (by omega), h1⟩
    rw [Nat.div_lt_iff_lt_mul (by omega)]
    exact hlt
/-- an image meets the mask, or a rectangle has a conflict, never both -/
structure MaskLaw (g : List (List Int)) (xs ys : List Int) : Prop where
  none : maskedOf g xs ys = [] → ∃ a b, badOf (confB g xs ys) (2 ^ xs.length) (2 ^ ys.length) = some (a, b) ∧ a < 2 ^ xs.length ∧ b < 2 ^ ys.length ∧ confB g xs ys a b = true
  some : maskedOf g xs ys ≠ [] → ∀ a b, confB g xs ys a b = false
theorem mask_law {g : List (List Int)} {xs ys : List Int} (h : maskOk g xs ys = true) : MaskLaw g xs ys := by
  have hsz : sumsOk xs ys = true ∧ sizeB g xs.length ys.length (-1) 1 = true := by
    unfold maskOk at h
    rwa [Bool.and_eq_true] at h
  obtain ⟨hok, hs⟩ := hsz
  have hg := sizeB_rect.1 hs
  have hsum : sumL xs = sumL ys := by
    unfold sumsOk at hok
    simp only [Bool.and_eq_true, decide_eq_true_eq] at hok
    exact hok.2
  have hmem : ∀ m, m ∈ maskedOf g xs ys ↔ Sums xs ys xs.length ys.length m ∧ ∀ i j, i < xs.length → j < ys.length → mLow g i j ≤ at2 m i j ∧ at2 m i j ≤ mUp g i j := by
    intro m
    unfold maskedOf
    rw [List.mem_filter, imgsOf_okM hok, allImgs_mem hok]
    constructor
    · rintro ⟨h1, h2⟩
      exact ⟨h1, (meets_bounds hg h1.1).1 h2⟩
    · rintro ⟨h1, h2⟩
      exact ⟨h1, (meets_bounds hg h1.1).2 h2⟩
  have hlu : ∀ i j, i < xs.length → j < ys.length → 0 ≤ mLow g i j ∧ mLow g i j ≤ mUp g i j ∧ mUp g i j ≤ 1 := by
    intro i j _ _
    unfold mLow mUp
    split <;> split <;> omega
  constructor
  · intro hnil
    rcases flowImg hsum hlu with ⟨m, h1, h2⟩ | ⟨A, B, hAB⟩
    · have := (hmem m).2 ⟨h1, h2⟩
      rw [hnil] at this
      cases this
    · refine badOf_yes (bitSet_lt A xs.length) (bitSet_lt B ys.length) ?_
      unfold confB needOf
      rw [decide_eq_true_eq, need_congr (A' := A) (B' := B) (fun i hi => by rw [bitSet_bit]; simp [hi]) (fun j hj => by rw [bitSet_bit]; simp [hj])]
      exact hAB
  · intro hne a b
    obtain ⟨m, l, e⟩ := List.exists_cons_of_ne_nil hne
    obtain ⟨h1, h2⟩ := (hmem m).1 (by rw [e]; simp)
    unfold confB needOf
    rw [decide_eq_false_iff_not]
    have := flowImg_no h1 h2 (fun i => a.testBit i) (fun j => b.testBit j)
    omega
theorem masked_shape {g m : List (List Int)} {xs ys : List Int} (hok : sumsOk xs ys = true) (h : m ∈ maskedOf g xs ys) : Sums xs ys xs.length ys.length m ∧ meetsB xs.length ys.length m g = true := by
  unfold maskedOf at h
  rw [List.mem_filter, imgsOf_okM hok, allImgs_mem hok] at h
  exact h
/-- the rows of a list of lists, as every later world has them -/
def RowsAt (w : World) (b off r c : Nat) (m : List (List Int)) : Prop := ∀ y, y < r → ∃ br offr cpr, (∀ w', Below w.heap.size w w' → w'.cell? ⟨b, off + y, none⟩ = some (.slice (some ⟨br, offr, none⟩) c cpr)) ∧ ∀ x, x < c → ∀ w', Below w.heap.size w w' → w'.cell? ⟨br, offr + x, none⟩ = some (.int .i64 (at2 m y x))
theorem Grid.rowsT {w : World} {v : Value} {m : List (List Int)} {r c : Nat} (h : Grid w v m) (hs : TRect r c m) (hr : 1 ≤ r) (hc : 1 ≤ c) : ∃ b off cp, v = .slice (some ⟨b, off, none⟩) r cp ∧ b < w.heap.size ∧ RowsAt w b off r c m := by
  have hml := hs.1
  obtain ⟨b, off, cp, rfl, hb, -⟩ := h.inv_ne (by omega)
  refine ⟨b, off, cp, by rw [hml], hb, fun y hy => ?_⟩
  obtain ⟨hrow, hrl, -⟩ := hs.row hy
  obtain ⟨u, hck, hu⟩ := Sl.at h hrow
  have hu : Ints w u (m.getD y []) := hu
  obtain ⟨br, offr, cpr, rfl, hbr, -⟩ := hu.inv_ne (by omega)
  refine ⟨br, offr, cpr, fun w' hw => by rw [hw.cell (p := ⟨b, off + y, none⟩) hb, hck, hrl], fun x hx w' hw => ?_⟩
  obtain ⟨z, hz⟩ : ∃ z, (m.getD y [])[x]? = some z := ⟨_, List.getElem?_eq_getElem (by omega)⟩
  rw [hw.cell (p := ⟨br, offr + x, none⟩) hbr, Ints.at hu hz]
  unfold at2
  rw [List.getD_eq_getElem?_getD (l := m.getD y []), hz]; rfl
theorem RowsAt.keep {w w2 : World} {b off r c : Nat} {m : List (List Int)} (h : RowsAt w b off r c m) (hb : Below w.heap.size w w2) : RowsAt w2 b off r c m := fun y hy => by
  obtain ⟨br, offr, cpr, h1, h2⟩ := h y hy
  exact ⟨br, offr, cpr, fun w' hw => h1 w' (hb.trans_pure hw (Nat.le_refl _)), fun x hx w' hw => h2 x hx w' (hb.trans_pure hw (Nat.le_refl _))⟩
/-! ### sums over chosen rows and columns -/
theorem sumL_app (a b : List Int) : sumL (a ++ b) = sumL a + sumL b := by
  induction a with
  | nil => simp [sumL]
  | cons x a ih => rw [List.cons_append, eSum_cons, eSum_cons, ih]; omega
theorem rs_memb (R : Nat → Int) (a : Nat) : ∀ K, sumL ((membN K a).map R) = rs K fun i => if a.testBit i then R i else 0
  | 0 => rfl
  | K + 1 => by
    rw [membN_succ, List.map_append, sumL_app, rs_memb R a K, rs]
    cases a.testBit K <;> simp [sumL]
def accL (xs L : List Int) (k : Nat) : Int := sumL ((L.take k).map fun z => xs.getD z.toNat 0)
theorem accL_zero (xs L : List Int) : accL xs L 0 = 0 := by simp [accL, sumL]
theorem accL_succ {xs L : List Int} {k : Nat} {z : Int} (h : L[k]? = some z) : accL xs L (k + 1) = accL xs L k + xs.getD z.toNat 0 := by
  unfold accL
  rw [List.take_add_one, h, List.map_append, sumL_app]
  simp [sumL]
theorem accL_bd {xs L : List Int} (h : ∀ x ∈ xs, 0 ≤ x ∧ x ≤ 5) (k : Nat) : 0 ≤ accL xs L k ∧ accL xs L k ≤ 5 * k := by
  induction k with
  | zero => rw [accL_zero]; omega
  | succ k ih =>
    cases e : L[k]? with
    | none =>
      have : accL xs L (k + 1) = accL xs L k := by unfold accL; rw [List.take_add_one, e]; simp
      omega
    | some z =>
      rw [accL_succ e]
      have : 0 ≤ xs.getD z.toNat 0 ∧ xs.getD z.toNat 0 ≤ 5 := by
        rw [List.getD_eq_getElem?_getD]
        cases e2 : xs[z.toNat]? with
        | none => simp
        | some q => simpa using h q (List.mem_of_getElem? e2)
      omega
def selS (xs : List Int) (a : Nat) : Int := rs xs.length fun i => if a.testBit i then fn1 xs i else 0
theorem accL_all (xs : List Int) (a : Nat) : accL xs (membL xs.length a) (membL xs.length a).length = selS xs a := by
  unfold accL selS
  rw [List.take_length, ← rs_memb]
  unfold membL
  rw [List.map_map]
  rfl
def cellG (g : List (List Int)) (a b y x : Nat) : Int := gc (a.testBit y) (b.testBit x) (mLow g y x) (mUp g y x)
def roomTo (g : List (List Int)) (c a b y x : Nat) : Int := rs y (fun i => rs c fun j => cellG g a b i j) + rs x fun j => cellG g a b y j
theorem roomTo_succ (g : List (List Int)) (c a b y x : Nat) : roomTo g c a b y (x + 1) = roomTo g c a b y x + cellG g a b y x := by
  unfold roomTo
  rw [rs]; omega
theorem roomTo_row (g : List (List Int)) (c a b y : Nat) : roomTo g c a b y c = roomTo g c a b (y + 1) 0 := by
  unfold roomTo
  rw [rs, rs]; omega
theorem cellG_bd (g : List (List Int)) (a b y x : Nat) : -1 ≤ cellG g a b y x ∧ cellG g a b y x ≤ 1 := by
  unfold cellG gc mLow mUp
  cases a.testBit y <;> cases b.testBit x <;> simp <;> (try split) <;> omega
theorem rs_abs {n : Nat} {f : Nat → Int} {B : Int} (h : ∀ i, i < n → -B ≤ f i ∧ f i ≤ B) : -(n * B) ≤ rs n f ∧ rs n f ≤ n * B := by
  induction n with
  | zero => simp [rs]
  | succ n ih =>
    have h1 := ih fun i hi => h i (by omega)
    have h2 := h n (by omega)
    rw [rs]
    push_cast
    rw [Int.add_mul, Int.one_mul]
    omega
theorem roomTo_bd {g : List (List Int)} {c a b y x : Nat} (hc : c ≤ 5) (hy : y ≤ 5) (hx : x ≤ 5) : -30 ≤ roomTo g c a b y x ∧ roomTo g c a b y x ≤ 30 := by
  unfold roomTo
  have h1 : ∀ i, i < y → -5 ≤ rs c (fun j => cellG g a b i j) ∧ rs c (fun j => cellG g a b i j) ≤ 5 := fun i _ => by
    have := rs_abs (n := c) (f := fun j => cellG g a b i j) (B := 1) fun j _ => cellG_bd g a b i j
    omega
  have h2 := rs_abs (n := y) (f := fun i => rs c fun j => cellG g a b i j) (B := 5) h1
  have h3 := rs_abs (n := x) (f := fun j => cellG g a b y j) (B := 1) fun j _ => cellG_bd g a b y j
  omega
theorem conf_room (g : List (List Int)) (xs ys : List Int) (a b : Nat) : confB g xs ys a b = decide (selS xs a - selS ys b > -(roomTo g ys.length a b xs.length 0)) := by
  unfold confB
  refine decide_eq_decide.2 ?_
  have e : needOf g xs ys a b = selS xs a - selS ys b + roomTo g ys.length a b xs.length 0 := by
    unfold needOf need roomTo selS
    rw [show rs 0 (fun j => cellG g a b xs.length j) = 0 from rfl, Int.add_zero]
    rfl
  rw [e]; omega
theorem any_memb {K a y : Nat} (h : y < K) : ((membL K a).any fun x => x == (y : Int)) = a.testBit y := by
  rw [Bool.eq_iff_iff, List.any_eq_true]
  constructor
  · rintro ⟨z, hz, e⟩
    obtain ⟨i, rfl, h1, h2⟩ := membL_mem.1 hz
    rw [beq_iff_eq] at e
    have : i = y := by omega
    rwa [← this]
  · intro hb
    exact ⟨y, membL_mem.2 ⟨y, rfl, h, hb⟩, by simp⟩
theorem imgs5 {xs ys : List Int} (hok : sumsOk xs ys = true) : (∀ x ∈ xs, 0 ≤ x ∧ x ≤ 5) ∧ ∀ y ∈ ys, 0 ≤ y ∧ y ≤ 5 := by
  unfold sumsOk at hok
  simp only [Bool.and_eq_true, inR_iff, List.all_eq_true] at hok
  obtain ⟨⟨⟨⟨h1, h2⟩, h3⟩, h4⟩, -⟩ := hok
  exact ⟨fun x hx => by have := h3 x hx; omega, fun y hy => by have := h4 y hy; omega⟩
end Go.Proofs.YtlmjpmdkifoekaaDoor

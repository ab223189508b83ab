/- Contracts: FixedCells. -/
import Derived.Test.YtliejhmlcdjpcaaX7
import Derived.Test.YtliejhmlcdjpcaaDraw2
namespace Go.Proofs.Ytliejhmlcdjpcaa
open Go.RowKit

theorem imgFn_len (r c : Nat) (f : Nat → Nat → Int) : (imgFn r c f).length = r := by simp [imgFn]
theorem imgFn_row {r c i : Nat} (f : Nat → Nat → Int) (hi : i < r) : (imgFn r c f)[i]? = some ((List.range c).map fun j => f i j) := by
  unfold imgFn
  rw [List.getElem?_map, List.getElem?_range hi]; rfl
theorem imgFn_congr {r c : Nat} {f g : Nat → Nat → Int} (h : ∀ i j, i < r → j < c → f i j = g i j) : imgFn r c f = imgFn r c g := by
  unfold imgFn
  exact List.map_congr_left fun i hi => List.map_congr_left fun j hj => h i j (List.mem_range.1 hi) (List.mem_range.1 hj)
theorem imgFn_set {r c y x : Nat} (f : Nat → Nat → Int) (hy : y < r) (v : Int) : (imgFn r c f).set y (((List.range c).map fun j => f y j).set x v) = imgFn r c (fun i j => if i = y ∧ j = x then v else f i j) := by
  apply List.ext_getElem?
  intro i
  rw [List.getElem?_set]
  by_cases hi : y = i
  · subst hi
    rw [if_pos rfl, if_pos (by rw [imgFn_len]; exact hy), imgFn_row _ hy]
    congr 1
    apply List.ext_getElem?
    intro j
    rw [List.getElem?_set]
    by_cases hj : x = j
    · subst hj
      rw [if_pos rfl]
      by_cases hx : x < c
      · rw [if_pos (by simpa using hx), List.getElem?_map, List.getElem?_range hx]; simp
      · rw [if_neg (by simpa using hx), List.getElem?_eq_none (by simpa using hx)]
    · rw [if_neg hj, List.getElem?_map, List.getElem?_map]
      cases hr : (List.range c)[j]? with
      | none => rfl
      | some k =>
        have hk : k = j := by
          have h1 := (List.getElem?_eq_some_iff.1 hr).1
          rw [List.length_range] at h1
          rw [List.getElem?_range h1] at hr
          exact (Option.some.inj hr).symm
        subst hk
        simp only [Option.map_some]
        rw [if_neg (by omega)]
  · rw [if_neg hi]
    by_cases hir : i < r
    · rw [imgFn_row _ hir, imgFn_row _ hir]
      congr 1
      exact List.map_congr_left fun j _ => by rw [if_neg (by omega)]
    · rw [List.getElem?_eq_none (by rw [imgFn_len]; omega), List.getElem?_eq_none (by rw [imgFn_len]; omega)]
/-- the cells so far as they are the same in the images looked at -/
def fixAt (g0 : List (List Int)) (L : List (List (List Int))) (k y x i j : Nat) : Int :=
  if (∀ m ∈ L.take k, at2 m i j = at2 g0 i j) ∧ ((i < y ∨ i = y ∧ j < x) → at2 (L.getD k []) i j = at2 g0 i j) then at2 g0 i j else -1
def fixTo (r c : Nat) (g0 : List (List Int)) (L : List (List (List Int))) (k y x : Nat) : List (List Int) := imgFn r c (fixAt g0 L k y x)
def fixG (r c : Nat) (L : List (List (List Int))) : List (List Int) := imgFn r c fun i j => if ∀ m ∈ L, at2 m i j = at2 (L.headD []) i j then at2 (L.headD []) i j else -1
theorem fixTo_start {r c : Nat} {g0 : List (List Int)} (h : Shape r c g0) (L : List (List (List Int))) : fixTo r c g0 L 0 0 0 = g0 := by
  unfold fixTo
  have e : imgFn r c (fixAt g0 L 0 0 0) = imgFn r c (fun i j => at2 g0 i j) := imgFn_congr fun i j _ _ => by
    unfold fixAt
    rw [if_pos ⟨by simp, by omega⟩]
  rw [e]
  refine (imgFn_shape fun i j _ _ => at2_bits h i j).ext h fun i j hi hj => ?_
  show at2 _ i j = at2 g0 i j
  exact imgFn_at hi hj
theorem fixTo_row (r c : Nat) (g0 : List (List Int)) (L : List (List (List Int))) (k y : Nat) : fixTo r c g0 L k y c = fixTo r c g0 L k (y + 1) 0 := imgFn_congr fun i j _ hj => by
  unfold fixAt
  have : (i < y ∨ i = y ∧ j < c) ↔ (i < y + 1 ∨ i = y + 1 ∧ j < 0) := by omega
  simp only [this]
theorem fixTo_img {r c : Nat} {g0 : List (List Int)} {L : List (List (List Int))} {k : Nat} {m : List (List Int)} (hm : L[k]? = some m) : fixTo r c g0 L k r 0 = fixTo r c g0 L (k + 1) 0 0 := imgFn_congr fun i j hi _ => by
  unfold fixAt
  rw [gD_some hm, List.take_add_one, hm]
  have e : ((∀ q ∈ L.take k, at2 q i j = at2 g0 i j) ∧ ((i < r ∨ i = r ∧ j < 0) → at2 m i j = at2 g0 i j)) ↔ ((∀ q ∈ L.take k ++ (some m).toList, at2 q i j = at2 g0 i j) ∧ ((i < 0 ∨ i = 0 ∧ j < 0) → at2 (L.getD (k + 1) []) i j = at2 g0 i j)) := by
    constructor
    · rintro ⟨h1, h2⟩
      refine ⟨fun q hq => ?_, by omega⟩
      rcases List.mem_append.1 hq with h | h
      · exact h1 q h
      · simp at h; rw [h]; exact h2 (.inl hi)
    · rintro ⟨h1, -⟩
      exact ⟨fun q hq => h1 q (List.mem_append_left _ hq), fun _ => h1 m (by simp)⟩
  simp only [e]
theorem fixTo_end {r c : Nat} {L : List (List (List Int))} {g0 : List (List Int)} (h0 : L[0]? = some g0) {k : Nat} (hk : L.length ≤ k) : fixTo r c g0 L k 0 0 = fixG r c L := by
  unfold fixTo fixG
  have hh : L.headD [] = g0 := headD_of h0
  rw [hh]
  exact imgFn_congr fun i j _ _ => by
    unfold fixAt
    rw [List.take_of_length_le hk]
    have e : ((∀ q ∈ L, at2 q i j = at2 g0 i j) ∧ ((i < 0 ∨ i = 0 ∧ j < 0) → at2 (L.getD k []) i j = at2 g0 i j)) ↔ ∀ q ∈ L, at2 q i j = at2 g0 i j := ⟨fun h => h.1, fun h => ⟨h, by omega⟩⟩
    simp only [e]
theorem fixTo_cell {r c y x : Nat} {g0 : List (List Int)} {L : List (List (List Int))} {k : Nat} {row : List Int} (hy : y < r) (hx : x < c) (hrow : (fixTo r c g0 L k y x)[y]? = some row) : row = (List.range c).map (fun j => fixAt g0 L k y x y j) ∧ row.length = c ∧ row[x]? = some (if ∀ m ∈ L.take k, at2 m y x = at2 g0 y x then at2 g0 y x else -1) := by
  have h1 := imgFn_row (fixAt g0 L k y x) hy (c := c)
  unfold fixTo at hrow
  rw [h1] at hrow
  obtain rfl := Option.some.inj hrow
  refine ⟨rfl, by simp, ?_⟩
  rw [List.getElem?_map, List.getElem?_range hx]
  simp only [Option.map_some, Option.some.injEq]
  unfold fixAt
  have e : ((∀ q ∈ L.take k, at2 q y x = at2 g0 y x) ∧ ((y < y ∨ y = y ∧ x < x) → at2 (L.getD k []) y x = at2 g0 y x)) ↔ ∀ q ∈ L.take k, at2 q y x = at2 g0 y x := ⟨fun h => h.1, fun h => ⟨h, by omega⟩⟩
  by_cases hall : ∀ q ∈ L.take k, at2 q y x = at2 g0 y x
  · rw [if_pos (e.2 hall), if_pos hall]
  · rw [if_neg (fun h => hall (e.1 h)), if_neg hall]
/-- a cell that is as it was found is left -/
theorem fixTo_same {r c y x : Nat} {g0 : List (List Int)} {L : List (List (List Int))} {k : Nat} {m : List (List Int)} (hm : L[k]? = some m) (hms : Shape r c m) (he : (if ∀ q ∈ L.take k, at2 q y x = at2 g0 y x then at2 g0 y x else -1) = at2 m y x) : fixTo r c g0 L k y (x + 1) = fixTo r c g0 L k y x := imgFn_congr fun i j _ _ => by
  unfold fixAt
  rw [gD_some hm]
  by_cases hij : i = y ∧ j = x
  · obtain ⟨rfl, rfl⟩ := hij
    have hb := at2_bits hms i j
    by_cases hall : ∀ q ∈ L.take k, at2 q i j = at2 g0 i j
    · rw [if_pos hall] at he
      rw [if_pos ⟨hall, fun _ => he.symm⟩, if_pos ⟨hall, by omega⟩]
    · rw [if_neg hall] at he; omega
  · have : (i < y ∨ i = y ∧ j < x + 1) ↔ (i < y ∨ i = y ∧ j < x) := by omega
    simp only [this]
theorem fixTo_other {r c y x : Nat} {g0 : List (List Int)} {L : List (List (List Int))} {k : Nat} {m : List (List Int)} {row : List Int} (hy : y < r) (hx : x < c) (hm : L[k]? = some m) (hrow : (fixTo r c g0 L k y x)[y]? = some row) (he : ¬ (if ∀ q ∈ L.take k, at2 q y x = at2 g0 y x then at2 g0 y x else -1) = at2 m y x) :
    (fixTo r c g0 L k y x).set y (row.set x (-1)) = fixTo r c g0 L k y (x + 1) := by
  obtain ⟨e1, -, -⟩ := fixTo_cell hy hx hrow
  rw [e1]
  unfold fixTo
  rw [imgFn_set _ hy]
  refine imgFn_congr fun i j _ _ => ?_
  by_cases hij : i = y ∧ j = x
  · rw [if_pos hij]
    obtain ⟨rfl, rfl⟩ := hij
    unfold fixAt
    rw [gD_some hm]
    by_cases hall : ∀ q ∈ L.take k, at2 q i j = at2 g0 i j
    · rw [if_pos hall] at he
      rw [if_neg (fun h => he (h.2 (.inr ⟨rfl, by omega⟩)).symm)]
    · rw [if_neg (fun h => hall h.1)]
  · rw [if_neg hij]
    unfold fixAt
    have : (i < y ∨ i = y ∧ j < x + 1) ↔ (i < y ∨ i = y ∧ j < x) := by omega
    simp only [this]
def fixedOf (xs ys : List Int) : List (List Int) := if existsB xs ys then fixG xs.length ys.length (imgsOf xs ys) else []
theorem fixAt_bd {r c : Nat} {g0 : List (List Int)} (h : Shape r c g0) (L : List (List (List Int))) (k y x i j : Nat) : -1 ≤ fixAt g0 L k y x i j ∧ fixAt g0 L k y x i j ≤ 1 := by
  have := at2_bits h i j
  unfold fixAt
  split <;> omega
theorem imgsOf_shape {xs ys : List Int} : ∀ m ∈ imgsOf xs ys, Sums xs ys xs.length ys.length m := by
  intro m hm
  cases hok : sumsOk xs ys
  · rw [imgsOf_no hok] at hm; cases hm
  · rw [imgsOf_ok hok] at hm; exact (allImgs_mem hok m).1 hm
set_option maxRecDepth 100000 in
set_option maxHeartbeats 4000000 in
theorem FixedCells_i (v v2 : Value) (xs ys : List Int) (w : World) (hv : Ints w v xs) (hv2 : Ints w v2 ys) : Calls Try.prog 14 #[v, v2] w (New 25 (Own 3 IntV) w (fixedOf xs ys)) := by
  have Hv := Lib.hid hv
  have Hv2 := Lib.hid hv2
  obtain ⟨a, cap, rfl, -⟩ := hv
  obtain ⟨a2, cap2, rfl, -⟩ := hv2
  cases hex : existsB xs ys
  · have Hr := Lib.hid (show fixedOf xs ys = [] from by unfold fixedOf; rw [hex]; rfl)
    have Hi := Lib.hid (imgsOf_none hex)
    have Hex := Lib.hid hex
    clear hex
    go_enter Try.func14, Try.ntmps14
    go_wp2_with (fail)
    refine (AllImages_i _ _ _ _ _ Hv.out Hv2.out).mono ?_
    rintro e w1 ⟨v1, rfl, o1, b1⟩; rw [Hi.out] at o1; obtain ⟨aL, cL, rfl, -⟩ := id o1.grids; clear o1
    go_wp2
    go_ret
    exact ⟨_, rfl, by rw [Hr.out]; exact Own.nil _ _ _ _, b1⟩
  have hok := existsB_ok hex
  obtain ⟨x1, x5, y1, y5, -, -, -⟩ := sumsOk_bd hok
  have Hr := Lib.hid (show fixedOf xs ys = fixG xs.length ys.length (imgsOf xs ys) from by unfold fixedOf; rw [hex]; rfl)
  have hne := imgsOf_some hex
  have hLl := imgsOf_len xs ys
  have hsh := imgsOf_shape (xs := xs) (ys := ys)
  have hrows := rowsAll_eq hok
  rw [← imgsOf_ok hok] at hrows
  obtain ⟨h5, h6⟩ := sumsOk_5 hok
  obtain ⟨L, hL⟩ : ∃ L, L = imgsOf xs ys := ⟨_, rfl⟩
  rw [← hL] at hne hLl hsh Hr hrows
  have hL0 : 0 < L.length := List.length_pos_iff.2 hne
  obtain ⟨g0, hg0⟩ : ∃ g0, L[0]? = some g0 := ⟨_, List.getElem?_eq_getElem hL0⟩
  have Hg0 := Lib.hid hg0
  have Hsh := Lib.hid hsh
  have HL := Lib.hid hL
  have Hex := Lib.hid hex
  have Hrows := Lib.hid hrows
  have HgS := Lib.hid (hsh g0 (List.mem_of_getElem? hg0)).1
  have H56 := Lib.hid (And.intro h5 h6)
  have hlz : ((L.length : Int) == 0) = false := by rw [beq_eq_false_iff_ne]; omega
  clear hex hok hne hsh hg0 hL hrows h5 h6
  go_enter Try.func14, Try.ntmps14
  go_wp2_with (fail)
  refine (AllImages_i _ _ _ _ _ Hv.out Hv2.out).mono ?_
  rintro e w1 ⟨v1, rfl, o1, b1⟩; rw [← HL.out] at o1
  obtain ⟨gL, cL, rfl, -, -, -, -⟩ := o1.inv_ne hL0
  have HoL := Lib.hid (o1.sl (R' := Sl (Sl IntV)) (fun _ _ _ _ h => h.sl (fun _ _ _ _ h => h.sl (fun _ _ _ _ h => h) rIntV) (rSl rIntV)) (rSl (rSl rIntV)))
  obtain ⟨u0, hc0, hu0⟩ := Sl.at HoL.out Hg0.out
  rw [Nat.add_zero] at hc0
  have hG0 : Grid w1 u0 g0 := (rSl (rSl rIntV)).rd hu0
  obtain ⟨m1, m2, rfl, -⟩ := id hG0
  have hs1 := b1.size
  have HG0 := Lib.hid hG0
  have hml : g0.length ≤ 1048576 := by rw [HgS.out.1]; omega
  have HR := Lib.hid (show ∀ p ∈ g0, p.length ≤ 1048576 from fun p hp => by have := (HgS.out.2 p hp).1; omega)
  clear o1 hu0 hG0
  go_wp2_with (fail)
  refine (copyGrid_c _ g0 _ (by exact HG0.out) hml HR.out).mono ?_
  rintro e w2 ⟨v2, rfl, o2, b2⟩
  obtain ⟨g, c2, rfl, hg, hc2, -, -⟩ := o2.inv_ne (by rw [HgS.out.1]; omega)
  rw [HgS.out.1] at o2 hc2 ⊢
  have hs2 := b2.size
  have Ho2 := Lib.hid o2
  have HL2 := Lib.hid ((rSl (rSl (rSl rIntV))).same (sameOn_below b2 fun b hb => hb.2) HoL.out)
  have Hbb := Lib.hid (b1.trans_pure b2 (Nat.le_refl _))
  clear o2 hc0
  go_wp2
  go_loopw [29] (fun i wr => ∃ k : Nat, k ≤ L.length ∧ i = .int .i64 k ∧ Hid (Own 25 (Own 3 IntV) (Iv w1.heap.size w2.heap.size) wr (.slice (some ⟨g, 0, none⟩) xs.length c2) (fixTo xs.length ys.length g0 L k 0 0)) ∧ Hid (Below w1.heap.size w2 wr) ∧ wr.heap.size = w2.heap.size) (fun i _ => L.length - (intOf i).toNat)
  case atStart => exact ⟨0, Nat.zero_le _, rfl, by rw [fixTo_start HgS.out]; exact Ho2.out, Below.refl _ _, rfl⟩
  case round =>
    obtain ⟨k, hk, rfl, Hown, Hbel, hsz⟩ := hrel
    have Hsz := Lib.hid hsz
    clear hsz
    by_cases hlt : k < L.length
    · obtain ⟨m, hm⟩ : ∃ m, L[k]? = some m := ⟨_, List.getElem?_eq_getElem hlt⟩
      have HmS := Lib.hid (Hsh.out m (List.mem_of_getElem? hm)).1
      have HLr := Lib.hid ((rSl (rSl (rSl rIntV))).same (fun b hb => Hbel.out.block b hb.2) HL2.out)
      obtain ⟨um, hcm, hum⟩ := Sl.at HLr.out hm
      rw [Nat.zero_add] at hcm
      obtain ⟨am, cm, rfl, -⟩ := id hum
      have Hm := Lib.hid hm
      have Hum := Lib.hid hum
      have hml : m.length = xs.length := HmS.out.1
      rw [hml] at hcm
      obtain ⟨wo, hwo⟩ : ∃ wo, wo = wr := ⟨_, rfl⟩
      rw [← hwo] at Hum
      have Hwo := Lib.hid (show Below w1.heap.size wo wr from by rw [hwo]; exact Below.refl _ _)
      have Hwo2 := Lib.hid (show Below w1.heap.size w2 wo from by rw [hwo]; exact Hbel.out)
      clear hm hum hwo hml
      go_wp2
      go_loopw [35] (fun i wr => ∃ y : Nat, y ≤ xs.length ∧ i = .int .i64 y ∧ Hid (Own 25 (Own 3 IntV) (Iv w1.heap.size w2.heap.size) wr (.slice (some ⟨g, 0, none⟩) xs.length c2) (fixTo xs.length ys.length g0 L k y 0)) ∧ Hid (Below w1.heap.size wo wr) ∧ wr.heap.size = w2.heap.size) (fun i _ => xs.length - (intOf i).toNat)
      case atStart => exact ⟨0, Nat.zero_le _, rfl, Hown, Hwo, Hsz.out⟩
      case round =>
        clear Hown Hbel Hsz HLr hcm Hwo
        obtain ⟨y, hy, rfl, Hown, Hbel, hsz⟩ := hrel
        have Hsz := Lib.hid hsz
        clear hsz
        by_cases hlty : y < xs.length
        · obtain ⟨mrow, hmr⟩ : ∃ row, m[y]? = some row := ⟨_, (at2_row HmS.out hlty).1⟩
          have hmrl : mrow.length = ys.length := (HmS.out.2 mrow (List.mem_of_getElem? hmr)).1
          obtain ⟨bm, offm, cpm, he, hbm, -⟩ := Hum.out.inv_ne (by rw [HmS.out.1]; omega)
          obtain ⟨rfl, -⟩ : am = some ⟨bm, offm, none⟩ ∧ cm = cpm := by simpa using he
          obtain ⟨ur, hcr, hur⟩ := Sl.at ((rSl (rSl rIntV)).same (fun b hb => Hbel.out.block b hb.2) Hum.out) hmr
          obtain ⟨ar, crr, rfl, -⟩ := id hur
          rw [hmrl] at hcr
          have Hur := Lib.hid hur
          have Hmr := Lib.hid (show ∀ x, mrow.getD x 0 = at2 m y x from fun x => by unfold at2; rw [gD_some hmr])
          have Hmrl := Lib.hid hmrl
          obtain ⟨wp, hwp⟩ : ∃ wp, wp = wr := ⟨_, rfl⟩
          rw [← hwp] at Hur
          have Hwp := Lib.hid (show Below w1.heap.size wp wr from by rw [hwp]; exact Below.refl _ _)
          have Hwp2 := Lib.hid (show Below w1.heap.size wo wp from by rw [hwp]; exact Hbel.out)
          clear hmr hur he hwp hmrl
          go_wp2
          go_loopw [42] (fun i wr => ∃ x : Nat, x ≤ ys.length ∧ i = .int .i64 x ∧ Hid (Own 25 (Own 3 IntV) (Iv w1.heap.size w2.heap.size) wr (.slice (some ⟨g, 0, none⟩) xs.length c2) (fixTo xs.length ys.length g0 L k y x)) ∧ Hid (Below w1.heap.size wp wr) ∧ wr.heap.size = w2.heap.size) (fun i _ => ys.length - (intOf i).toNat)
          case atStart => exact ⟨0, Nat.zero_le _, rfl, Hown, Hwp, Hsz.out⟩
          case round =>
            clear Hown Hbel Hsz hcr Hwp
            obtain ⟨x, hx, rfl, Hown, Hbel, hsz⟩ := hrel
            have Hsz := Lib.hid hsz
            clear hsz
            by_cases hltx : x < ys.length
            · obtain ⟨z, hz⟩ : ∃ z, mrow[x]? = some z := ⟨_, List.getElem?_eq_getElem (by rw [Hmrl.out]; exact hltx)⟩
              obtain ⟨br, offr, cpr, he, hbr, -⟩ := Hur.out.inv_ne (by rw [Hmrl.out]; omega)
              obtain ⟨rfl, -⟩ : ar = some ⟨br, offr, none⟩ ∧ crr = cpr := by simpa using he
              obtain ⟨uz, hcz, rfl, -⟩ := Sl.at ((rSl rIntV).same (fun b hb => Hbel.out.block b hb.2) Hur.out) hz
              have hzz : z = at2 m y x := by rw [← Hmr.out x, gD_some hz]
              have hzb := at2_bits HmS.out y x
              rw [← hzz] at hzb
              obtain ⟨row, hrow⟩ : ∃ row, (fixTo xs.length ys.length g0 L k y x)[y]? = some row := ⟨_, imgFn_row _ hlty⟩
              obtain ⟨-, hrl, hrx⟩ := fixTo_cell hlty hltx hrow
              obtain ⟨q, cq, hcell, -, hq, -, hcq, hfree, hcells, hset⟩ := own_grid_cell Hown.out hrow (by rw [hrl]; omega)
              rw [hrl] at hcell hcq
              obtain ⟨o, ho⟩ : ∃ o, o = (if ∀ q ∈ L.take k, at2 q y x = at2 g0 y x then at2 g0 y x else -1) := ⟨_, rfl⟩
              rw [← ho] at hrx
              have hco := hcells x o hrx
              obtain ⟨-, hfo⟩ := hfree x (by rw [hrl]; exact hltx)
              have hqB := hq.1
              by_cases heq : o = z
              · have hne : (o != z) = false := by simp [heq]
                have Hsame := Lib.hid (show fixTo xs.length ys.length g0 L k y (x + 1) = fixTo xs.length ys.length g0 L k y x from fixTo_same Hm.out HmS.out (by rw [← ho, heq, hzz]))
                clear hz hzz hrow hrx hcells hset hfree ho heq he
                go_wp2
                go_roundw
                case rel => exact ⟨x + 1, by omega, by go_num, by rw [Hsame.out]; exact Hown.out, Hbel, Hsz.out⟩
                case measure => simp [intOf]; omega
              · have hne : (o != z) = true := by simp [heq]
                have Hset := Lib.hid (show Own 25 (Own 3 IntV) (Iv w1.heap.size w2.heap.size) (wr.setCell ⟨q, x, none⟩ (.int .i64 (-1))) (.slice (some ⟨g, 0, none⟩) xs.length c2) (fixTo xs.length ys.length g0 L k y (x + 1)) from by
                  have h := hset wr (fun _ _ => rfl) x (-1) (by rw [hrl]; exact hltx) (I64.small (by decide) (by decide))
                  rwa [fixTo_other hlty hltx Hm.out hrow (by rw [← ho, ← hzz]; exact heq)] at h)
                clear hz hzz hrow hrx hcells hset hfree ho heq he
                go_wp2
                go_roundw
                case rel => exact ⟨x + 1, by omega, by go_num, Hset, Hbel.out.setCell (show w1.heap.size ≤ (⟨q, x, none⟩ : Addr).block from hqB) _, by rw [size_setCell]; exact Hsz.out⟩
                case measure => simp [intOf]; omega
            · have e : x = ys.length := by omega
              have He := Lib.hid (show fixTo xs.length ys.length g0 L k (y + 1) 0 = fixTo xs.length ys.length g0 L k y x from by rw [e, fixTo_row])
              clear e
              go_wp2
              go_roundw
              case rel => exact ⟨y + 1, by omega, by go_num, by rw [He.out]; exact Hown.out, Hwp2.out.trans Hbel.out, Hsz.out⟩
              case measure => simp [intOf]; omega
        · have e : y = xs.length := by omega
          have He := Lib.hid (show fixTo xs.length ys.length g0 L (k + 1) 0 0 = fixTo xs.length ys.length g0 L k y 0 from by rw [e, fixTo_img Hm.out])
          clear e
          go_wp2
          go_roundw
          case rel => exact ⟨k + 1, by omega, by go_num, by rw [He.out]; exact Hown.out, Hwo2.out.trans Hbel.out, Hsz.out⟩
          case measure => simp [intOf]; omega
    · have He := Lib.hid (show fixTo xs.length ys.length g0 L k 0 0 = fixG xs.length ys.length L from fixTo_end Hg0.out (by omega))
      have hfin : Below w.heap.size w wr := Hbb.out.trans (Hbel.out.mono hs1)
      go_wp2
      go_ret
      refine ⟨_, rfl, ?_, hfin⟩
      rw [Hr.out, ← He.out, Hsz.out]
      exact (rOwn (rOwn rIntV)).mono (fun b hb => ⟨by have := hb.1; omega, hb.2⟩) Hown.out
set_option maxRecDepth 100000 in
set_option maxHeartbeats 4000000 in
theorem FixedCells_s (v v2 : Value) (xs ys : List Int) (w : World) (hv : Ints w v xs) (hv2 : Ints w v2 ys) : Calls Try.prog 43 #[v, v2] w (New 25 (Own 3 IntV) w (fixedOf xs ys)) := by
  have Hv := Lib.hid hv
  have Hv2 := Lib.hid hv2
  obtain ⟨a, cap, rfl, -⟩ := hv
  obtain ⟨a2, cap2, rfl, -⟩ := hv2
  cases hex : existsB xs ys
  · have Hr := Lib.hid (show fixedOf xs ys = [] from by unfold fixedOf; rw [hex]; rfl)
    have Hi := Lib.hid (imgsOf_none hex)
    have Hex := Lib.hid hex
    clear hex
    go_enter Try.func43, Try.ntmps43
    go_wp2_with (fail)
    refine (Exists_s _ _ _ _ _ Hv.out Hv2.out).mono ?_
    rintro e w1 ⟨rfl, b1⟩; rw [Hex.out]
    go_wp2
    go_ret
    exact ⟨_, rfl, by rw [Hr.out]; exact Own.nil _ _ _ _, b1⟩
  have hok := existsB_ok hex
  obtain ⟨x1, x5, y1, y5, -, -, -⟩ := sumsOk_bd hok
  have Hr := Lib.hid (show fixedOf xs ys = fixG xs.length ys.length (imgsOf xs ys) from by unfold fixedOf; rw [hex]; rfl)
  have hne := imgsOf_some hex
  have hLl := imgsOf_len xs ys
  have hsh := imgsOf_shape (xs := xs) (ys := ys)
  have hrows := rowsAll_eq hok
  rw [← imgsOf_ok hok] at hrows
  obtain ⟨h5, h6⟩ := sumsOk_5 hok
  obtain ⟨L, hL⟩ : ∃ L, L = imgsOf xs ys := ⟨_, rfl⟩
  rw [← hL] at hne hLl hsh Hr hrows
  have hL0 : 0 < L.length := List.length_pos_iff.2 hne
  obtain ⟨g0, hg0⟩ : ∃ g0, L[0]? = some g0 := ⟨_, List.getElem?_eq_getElem hL0⟩
  have Hg0 := Lib.hid hg0
  have Hsh := Lib.hid hsh
  have HL := Lib.hid hL
  have Hex := Lib.hid hex
  have Hrows := Lib.hid hrows
  have HgS := Lib.hid (hsh g0 (List.mem_of_getElem? hg0)).1
  have H56 := Lib.hid (And.intro h5 h6)
  have hlz : ((L.length : Int) == 0) = false := by rw [beq_eq_false_iff_ne]; omega
  clear hex hok hne hsh hg0 hL hrows h5 h6
  go_enter Try.func43, Try.ntmps43
  go_wp2_with (fail)
  refine (Exists_s _ _ _ _ _ Hv.out Hv2.out).mono ?_
  rintro e w0 ⟨rfl, b0⟩; rw [Hex.out]; have Hcall := Lib.hid (l05All_c xs ys (.slice none 0 0) (.slice none 0 0) (.slice a xs.length cap) (.slice a2 ys.length cap2) [] (fun _ => False) [] w0 x5 y1 y5 H56.out.1 H56.out.2 (fun _ h => h.elim) (Own.nil _ _ _ _) ⟨none, 0, rfl, by simp, by simp, fun _ => rfl, fun h => by simp at h⟩ ((rSl rIntV).mono (fun b hb => ⟨hb, fun h => h⟩) (Hv.out.keep b0)) ((rSl rIntV).mono (fun b hb => ⟨hb, fun h => h⟩) (Hv2.out.keep b0)) (by simpa using x5) (fun row hr => by cases hr) (by rw [Hrows.out]; simp; omega)); go_wp2_with (fail); refine (Hcall.out).mono ?_; rintro e w1 ⟨v1, S3, rfl, o3, h3', O3⟩; have hs0 := b0.size; have o1 := (rOwn (rOwn (rOwn rIntV))).mono (S' := Iv w.heap.size w1.heap.size) (fun b hb => ⟨by have := (h3' b hb).1; simp at this; omega, (h3' b hb).2⟩) o3; rw [List.nil_append, show (rowsAll xs ys).map ([] ++ ·) = rowsAll xs ys from by simp, Hrows.out] at o1; have b1 := b0.trans_pure (O3.below (Nat.le_refl _) fun _ h => h.elim) (Nat.le_refl _); clear o3 h3' O3 Hcall
  obtain ⟨gL, cL, rfl, -, -, -, -⟩ := o1.inv_ne hL0
  have HoL := Lib.hid (o1.sl (R' := Sl (Sl IntV)) (fun _ _ _ _ h => h.sl (fun _ _ _ _ h => h.sl (fun _ _ _ _ h => h) rIntV) (rSl rIntV)) (rSl (rSl rIntV)))
  obtain ⟨u0, hc0, hu0⟩ := Sl.at HoL.out Hg0.out
  rw [Nat.add_zero] at hc0
  have hG0 : Grid w1 u0 g0 := (rSl (rSl rIntV)).rd hu0
  obtain ⟨m1, m2, rfl, -⟩ := id hG0
  have hs1 := b1.size
  have HG0 := Lib.hid hG0
  have hml : g0.length ≤ 1048576 := by rw [HgS.out.1]; omega
  have HR := Lib.hid (show ∀ p ∈ g0, p.length ≤ 1048576 from fun p hp => by have := (HgS.out.2 p hp).1; omega)
  clear o1 hu0 hG0
  go_wp2_with (fail)
  refine (l02Copy_c _ g0 _ (by exact HG0.out) hml HR.out).mono ?_
  rintro e w2 ⟨v2, rfl, o2, b2⟩
  obtain ⟨g, c2, rfl, hg, hc2, -, -⟩ := o2.inv_ne (by rw [HgS.out.1]; omega)
  rw [HgS.out.1] at o2 hc2 ⊢
  have hs2 := b2.size
  have Ho2 := Lib.hid o2
  have HL2 := Lib.hid ((rSl (rSl (rSl rIntV))).same (sameOn_below b2 fun b hb => hb.2) HoL.out)
  have Hbb := Lib.hid (b1.trans_pure b2 (Nat.le_refl _))
  clear o2 hc0
  go_wp2
  go_loopw [26] (fun i wr => ∃ k : Nat, k ≤ L.length ∧ i = .int .i64 k ∧ Hid (Own 25 (Own 3 IntV) (Iv w1.heap.size w2.heap.size) wr (.slice (some ⟨g, 0, none⟩) xs.length c2) (fixTo xs.length ys.length g0 L k 0 0)) ∧ Hid (Below w1.heap.size w2 wr) ∧ wr.heap.size = w2.heap.size) (fun i _ => L.length - (intOf i).toNat)
  case atStart => exact ⟨0, Nat.zero_le _, rfl, by rw [fixTo_start HgS.out]; exact Ho2.out, Below.refl _ _, rfl⟩
  case round =>
    obtain ⟨k, hk, rfl, Hown, Hbel, hsz⟩ := hrel
    have Hsz := Lib.hid hsz
    clear hsz
    by_cases hlt : k < L.length
    · obtain ⟨m, hm⟩ : ∃ m, L[k]? = some m := ⟨_, List.getElem?_eq_getElem hlt⟩
      have HmS := Lib.hid (Hsh.out m (List.mem_of_getElem? hm)).1
      have HLr := Lib.hid ((rSl (rSl (rSl rIntV))).same (fun b hb => Hbel.out.block b hb.2) HL2.out)
      obtain ⟨um, hcm, hum⟩ := Sl.at HLr.out hm
      rw [Nat.zero_add] at hcm
      obtain ⟨am, cm, rfl, -⟩ := id hum
      have Hm := Lib.hid hm
      have Hum := Lib.hid hum
      have hml : m.length = xs.length := HmS.out.1
      rw [hml] at hcm
      obtain ⟨wo, hwo⟩ : ∃ wo, wo = wr := ⟨_, rfl⟩
      rw [← hwo] at Hum
      have Hwo := Lib.hid (show Below w1.heap.size wo wr from by rw [hwo]; exact Below.refl _ _)
      have Hwo2 := Lib.hid (show Below w1.heap.size w2 wo from by rw [hwo]; exact Hbel.out)
      clear hm hum hwo hml
      go_wp2
      go_loopw [32] (fun i wr => ∃ y : Nat, y ≤ xs.length ∧ i = .int .i64 y ∧ Hid (Own 25 (Own 3 IntV) (Iv w1.heap.size w2.heap.size) wr (.slice (some ⟨g, 0, none⟩) xs.length c2) (fixTo xs.length ys.length g0 L k y 0)) ∧ Hid (Below w1.heap.size wo wr) ∧ wr.heap.size = w2.heap.size) (fun i _ => xs.length - (intOf i).toNat)
      case atStart => exact ⟨0, Nat.zero_le _, rfl, Hown, Hwo, Hsz.out⟩
      case round =>
        clear Hown Hbel Hsz HLr hcm Hwo
        obtain ⟨y, hy, rfl, Hown, Hbel, hsz⟩ := hrel
        have Hsz := Lib.hid hsz
        clear hsz
        by_cases hlty : y < xs.length
        · obtain ⟨mrow, hmr⟩ : ∃ row, m[y]? = some row := ⟨_, (at2_row HmS.out hlty).1⟩
          have hmrl : mrow.length = ys.length := (HmS.out.2 mrow (List.mem_of_getElem? hmr)).1
          obtain ⟨bm, offm, cpm, he, hbm, -⟩ := Hum.out.inv_ne (by rw [HmS.out.1]; omega)
          obtain ⟨rfl, -⟩ : am = some ⟨bm, offm, none⟩ ∧ cm = cpm := by simpa using he
          obtain ⟨ur, hcr, hur⟩ := Sl.at ((rSl (rSl rIntV)).same (fun b hb => Hbel.out.block b hb.2) Hum.out) hmr
          obtain ⟨ar, crr, rfl, -⟩ := id hur
          rw [hmrl] at hcr
          have Hur := Lib.hid hur
          have Hmr := Lib.hid (show ∀ x, mrow.getD x 0 = at2 m y x from fun x => by unfold at2; rw [gD_some hmr])
          have Hmrl := Lib.hid hmrl
          obtain ⟨wp, hwp⟩ : ∃ wp, wp = wr := ⟨_, rfl⟩
          rw [← hwp] at Hur
          have Hwp := Lib.hid (show Below w1.heap.size wp wr from by rw [hwp]; exact Below.refl _ _)
          have Hwp2 := Lib.hid (show Below w1.heap.size wo wp from by rw [hwp]; exact Hbel.out)
          clear hmr hur he hwp hmrl
          go_wp2
          go_loopw [39] (fun i wr => ∃ x : Nat, x ≤ ys.length ∧ i = .int .i64 x ∧ Hid (Own 25 (Own 3 IntV) (Iv w1.heap.size w2.heap.size) wr (.slice (some ⟨g, 0, none⟩) xs.length c2) (fixTo xs.length ys.length g0 L k y x)) ∧ Hid (Below w1.heap.size wp wr) ∧ wr.heap.size = w2.heap.size) (fun i _ => ys.length - (intOf i).toNat)
          case atStart => exact ⟨0, Nat.zero_le _, rfl, Hown, Hwp, Hsz.out⟩
          case round =>
            clear Hown Hbel Hsz hcr Hwp
            obtain ⟨x, hx, rfl, Hown, Hbel, hsz⟩ := hrel
            have Hsz := Lib.hid hsz
            clear hsz
            by_cases hltx : x < ys.length
            · obtain ⟨z, hz⟩ : ∃ z, mrow[x]? = some z := ⟨_, List.getElem?_eq_getElem (by rw [Hmrl.out]; exact hltx)⟩
              obtain ⟨br, offr, cpr, he, hbr, -⟩ := Hur.out.inv_ne (by rw [Hmrl.out]; omega)
              obtain ⟨rfl, -⟩ : ar = some ⟨br, offr, none⟩ ∧ crr = cpr := by simpa using he
              obtain ⟨uz, hcz, rfl, -⟩ := Sl.at ((rSl rIntV).same (fun b hb => Hbel.out.block b hb.2) Hur.out) hz
              have hzz : z = at2 m y x := by rw [← Hmr.out x, gD_some hz]
              have hzb := at2_bits HmS.out y x
              rw [← hzz] at hzb
              obtain ⟨row, hrow⟩ : ∃ row, (fixTo xs.length ys.length g0 L k y x)[y]? = some row := ⟨_, imgFn_row _ hlty⟩
              obtain ⟨-, hrl, hrx⟩ := fixTo_cell hlty hltx hrow
              obtain ⟨q, cq, hcell, -, hq, -, hcq, hfree, hcells, hset⟩ := own_grid_cell Hown.out hrow (by rw [hrl]; omega)
              rw [hrl] at hcell hcq
              obtain ⟨o, ho⟩ : ∃ o, o = (if ∀ q ∈ L.take k, at2 q y x = at2 g0 y x then at2 g0 y x else -1) := ⟨_, rfl⟩
              rw [← ho] at hrx
              have hco := hcells x o hrx
              obtain ⟨-, hfo⟩ := hfree x (by rw [hrl]; exact hltx)
              have hqB := hq.1
              by_cases heq : o = z
              · have hne : (o != z) = false := by simp [heq]
                have Hsame := Lib.hid (show fixTo xs.length ys.length g0 L k y (x + 1) = fixTo xs.length ys.length g0 L k y x from fixTo_same Hm.out HmS.out (by rw [← ho, heq, hzz]))
                clear hz hzz hrow hrx hcells hset hfree ho heq he
                go_wp2
                go_roundw
                case rel => exact ⟨x + 1, by omega, by go_num, by rw [Hsame.out]; exact Hown.out, Hbel, Hsz.out⟩
                case measure => simp [intOf]; omega
              · have hne : (o != z) = true := by simp [heq]
                have Hset := Lib.hid (show Own 25 (Own 3 IntV) (Iv w1.heap.size w2.heap.size) (wr.setCell ⟨q, x, none⟩ (.int .i64 (-1))) (.slice (some ⟨g, 0, none⟩) xs.length c2) (fixTo xs.length ys.length g0 L k y (x + 1)) from by
                  have h := hset wr (fun _ _ => rfl) x (-1) (by rw [hrl]; exact hltx) (I64.small (by decide) (by decide))
                  rwa [fixTo_other hlty hltx Hm.out hrow (by rw [← ho, ← hzz]; exact heq)] at h)
                clear hz hzz hrow hrx hcells hset hfree ho heq he
                go_wp2
                go_roundw
                case rel => exact ⟨x + 1, by omega, by go_num, Hset, Hbel.out.setCell (show w1.heap.size ≤ (⟨q, x, none⟩ : Addr).block from hqB) _, by rw [size_setCell]; exact Hsz.out⟩
                case measure => simp [intOf]; omega
            · have e : x = ys.length := by omega
              have He := Lib.hid (show fixTo xs.length ys.length g0 L k (y + 1) 0 = fixTo xs.length ys.length g0 L k y x from by rw [e, fixTo_row])
              clear e
              go_wp2
              go_roundw
              case rel => exact ⟨y + 1, by omega, by go_num, by rw [He.out]; exact Hown.out, Hwp2.out.trans Hbel.out, Hsz.out⟩
              case measure => simp [intOf]; omega
        · have e : y = xs.length := by omega
          have He := Lib.hid (show fixTo xs.length ys.length g0 L (k + 1) 0 0 = fixTo xs.length ys.length g0 L k y 0 from by rw [e, fixTo_img Hm.out])
          clear e
          go_wp2
          go_roundw
          case rel => exact ⟨k + 1, by omega, by go_num, by rw [He.out]; exact Hown.out, Hwo2.out.trans Hbel.out, Hsz.out⟩
          case measure => simp [intOf]; omega
    · have He := Lib.hid (show fixTo xs.length ys.length g0 L k 0 0 = fixG xs.length ys.length L from fixTo_end Hg0.out (by omega))
      have hfin : Below w.heap.size w wr := Hbb.out.trans (Hbel.out.mono hs1)
      go_wp2
      go_ret
      refine ⟨_, rfl, ?_, hfin⟩
      rw [Hr.out, ← He.out, Hsz.out]
      exact (rOwn (rOwn rIntV)).mono (fun b hb => ⟨by have := hb.1; omega, hb.2⟩) Hown.out
end Go.Proofs.Ytliejhmlcdjpcaa

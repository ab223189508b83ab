/- Contracts and plain laws that the claims on sessions use. No condition of their own. -/
import Derived.Test.YthmocomfjgmjoaaGreatDoorQ10
import Derived.Test.YthmocomfjgmjoaaGreatDoorQ02
import Derived.Test.YthmocomfjgmjoaaGreatDoorQ05
import Derived.Test.YthmocomfjgmjoaaGreatDoorQ09
import Derived.Test.YthmocomfjgmjoaaGreatDoorQ04
set_option maxHeartbeats 4000000
set_option maxRecDepth 100000
namespace Go.Proofs.YthmocomfjgmjoaaGreatDoor
open Go.RowKit
theorem imgFn_len (r c : Nat) (f : Nat → Nat → Int) : (imgFn r c f).length = r := by simp [imgFn]
theorem imgFn_row {r c i : Nat} (f : Nat → Nat → Int) (hi : i < r) : (imgFn r c f)[i]? = some ((List.range c).map fun j => f i j) := by
  unfold imgFn
  rw [List.getElem?_map, List.getElem?_range hi]; rfl
theorem imgFn_congr {r c : Nat} {f g : Nat → Nat → Int} (h : ∀ i j, i < r → j < c → f i j = g i j) : imgFn r c f = imgFn r c g := by
  unfold imgFn
  exact List.map_congr_left fun i hi => List.map_congr_left fun j hj => h i j (List.mem_range.1 hi) (List.mem_range.1 hj)
theorem imgFn_set {r c y x : Nat} (f : Nat → Nat → Int) (hy : y < r) (v : Int) : (imgFn r c f).set y (((List.range c).map fun j => f y j).set x v) = imgFn r c (fun i j => if i = y ∧ j = x then v else f i j) := by
  apply List.ext_getElem?
  intro i
  rw [List.getElem?_set]
  by_cases hi : y = i
  · subst hi
    rw [if_pos rfl, if_pos (by rw [imgFn_len]; exact hy), imgFn_row _ hy]
    congr 1
    apply List.ext_getElem?
    intro j
    rw [List.getElem?_set]
    by_cases hj : x = j
    · subst hj
      rw [if_pos rfl]
      by_cases hx : x < c
      · rw [if_pos (by simpa using hx), List.getElem?_map, List.getElem?_range hx]; simp
      · rw [if_neg (by simpa using hx), List.getElem?_eq_none (by simpa using hx)]
    · rw [if_neg hj, List.getElem?_map, List.getElem?_map]
      cases hr : (List.range c)[j]? with
      | none => rfl
      | some k =>
        have hk : k = j := by
          have h1 := (List.getElem?_eq_some_iff.1 hr).1
          rw [List.length_range] at h1
          rw [List.getElem?_range h1] at hr
          exact (Option.some.inj hr).symm
        subst hk
        simp only [Option.map_some]
        rw [if_neg (by omega)]
  · rw [if_neg hi]
    by_cases hir : i < r
    · rw [imgFn_row _ hir, imgFn_row _ hir]
      congr 1
      exact List.map_congr_left fun j _ => by rw [if_neg (by omega)]
    · rw [List.getElem?_eq_none (by rw [imgFn_len]; omega), List.getElem?_eq_none (by rw [imgFn_len]; omega)]
def fixAt (g0 : List (List Int)) (L : List (List (List Int))) (k y x i j : Nat) : Int :=
  if (∀ m ∈ L.take k, at2 m i j = at2 g0 i j) ∧ ((i < y ∨ i = y ∧ j < x) → at2 (L.getD k []) i j = at2 g0 i j) then at2 g0 i j else -1
def fixTo (r c : Nat) (g0 : List (List Int)) (L : List (List (List Int))) (k y x : Nat) : List (List Int) := imgFn r c (fixAt g0 L k y x)
def fixG (r c : Nat) (L : List (List (List Int))) : List (List Int) := imgFn r c fun i j => if ∀ m ∈ L, at2 m i j = at2 (L.headD []) i j then at2 (L.headD []) i j else -1
theorem fixTo_start {r c : Nat} {g0 : List (List Int)} (h : Shape r c g0) (L : List (List (List Int))) : fixTo r c g0 L 0 0 0 = g0 := by
  unfold fixTo
  have e : imgFn r c (fixAt g0 L 0 0 0) = imgFn r c (fun i j => at2 g0 i j) := imgFn_congr fun i j _ _ => by
    unfold fixAt
    rw [if_pos ⟨by simp, by omega⟩]
  rw [e]
  refine (imgFn_shape fun i j _ _ => at2_bits h i j).ext h fun i j hi hj => ?_
  show at2 _ i j = at2 g0 i j
  exact imgFn_at hi hj
theorem fixTo_row (r c : Nat) (g0 : List (List Int)) (L : List (List (List Int))) (k y : Nat) : fixTo r c g0 L k y c = fixTo r c g0 L k (y + 1) 0 := imgFn_congr fun i j _ hj => by
  unfold fixAt
  have : (i < y ∨ i = y ∧ j < c) ↔ (i < y + 1 ∨ i = y + 1 ∧ j < 0) := by omega
  simp only [this]
theorem fixTo_img {r c : Nat} {g0 : List (List Int)} {L : List (List (List Int))} {k : Nat} {m : List (List Int)} (hm : L[k]? = some m) : fixTo r c g0 L k r 0 = fixTo r c g0 L (k + 1) 0 0 := imgFn_congr fun i j hi _ => by
  unfold fixAt
  rw [gD_some hm, List.take_add_one, hm]
  have e : ((∀ q ∈ L.take k, at2 q i j = at2 g0 i j) ∧ ((i < r ∨ i = r ∧ j < 0) → at2 m i j = at2 g0 i j)) ↔ ((∀ q ∈ L.take k ++ (some m).toList, at2 q i j = at2 g0 i j) ∧ ((i < 0 ∨ i = 0 ∧ j < 0) → at2 (L.getD (k + 1) []) i j = at2 g0 i j)) := by
    constructor
    · rintro ⟨h1, h2⟩
      refine ⟨fun q hq => ?_, by omega⟩
      rcases List.mem_append.1 hq with h | h
      · exact h1 q h
      · simp at h; rw [h]; exact h2 (.inl hi)
    · rintro ⟨h1, -⟩
      exact ⟨fun q hq => h1 q (List.mem_append_left _ hq), fun _ => h1 m (by simp)⟩
  simp only [e]
theorem fixTo_end {r c : Nat} {L : List (List (List Int))} {g0 : List (List Int)} (h0 : L[0]? = some g0) {k : Nat} (hk : L.length ≤ k) : fixTo r c g0 L k 0 0 = fixG r c L := by
  unfold fixTo fixG
  have hh : L.headD [] = g0 := headD_of h0
  rw [hh]
  exact imgFn_congr fun i j _ _ => by
    unfold fixAt
    rw [List.take_of_length_le hk]
    have e : ((∀ q ∈ L, at2 q i j = at2 g0 i j) ∧ ((i < 0 ∨ i = 0 ∧ j < 0) → at2 (L.getD k []) i j = at2 g0 i j)) ↔ ∀ q ∈ L, at2 q i j = at2 g0 i j := ⟨fun h => h.1, fun h => ⟨h, by omega⟩⟩
    simp only [e]
theorem fixTo_cell {r c y x : Nat} {g0 : List (List Int)} {L : List (List (List Int))} {k : Nat} {row : List Int} (hy : y < r) (hx : x < c) (hrow : (fixTo r c g0 L k y x)[y]? = some row) : row = (List.range c).map (fun j => fixAt g0 L k y x y j) ∧ row.length = c ∧ row[x]? = some (if ∀ m ∈ L.take k, at2 m y x = at2 g0 y x then at2 g0 y x else -1) := by
  have h1 := imgFn_row (fixAt g0 L k y x) hy (c := c)
  unfold fixTo at hrow
  rw [h1] at hrow
  obtain rfl := Option.some.inj hrow
  refine ⟨rfl, by simp, ?_⟩
  rw [List.getElem?_map, List.getElem?_range hx]
  simp only [Option.map_some, Option.some.injEq]
  unfold fixAt
  have e : ((∀ q ∈ L.take k, at2 q y x = at2 g0 y x) ∧ ((y < y ∨ y = y ∧ x < x) → at2 (L.getD k []) y x = at2 g0 y x)) ↔ ∀ q ∈ L.take k, at2 q y x = at2 g0 y x := ⟨fun h => h.1, fun h => ⟨h, by omega⟩⟩
  by_cases hall : ∀ q ∈ L.take k, at2 q y x = at2 g0 y x
  · rw [if_pos (e.2 hall), if_pos hall]
  · rw [if_neg (fun h => hall (e.1 h)), if_neg hall]
theorem fixTo_same {r c y x : Nat} {g0 : List (List Int)} {L : List (List (List Int))} {k : Nat} {m : List (List Int)} (hm : L[k]? = some m) (hms : Shape r c m) (he : (if ∀ q ∈ L.take k, at2 q y x = at2 g0 y x then at2 g0 y x else -1) = at2 m y x) : fixTo r c g0 L k y (x + 1) = fixTo r c g0 L k y x := imgFn_congr fun i j _ _ => by
  unfold fixAt
  rw [gD_some hm]
  by_cases hij : i = y ∧ j = x
  · obtain ⟨rfl, rfl⟩ := hij
    have hb := at2_bits hms i j
    by_cases hall : ∀ q ∈ L.take k, at2 q i j = at2 g0 i j
    · rw [if_pos hall] at he
      rw [if_pos ⟨hall, fun _ => he.symm⟩, if_pos ⟨hall, by omega⟩]
    · rw [if_neg hall] at he; omega
  · have : (i < y ∨ i = y ∧ j < x + 1) ↔ (i < y ∨ i = y ∧ j < x) := by omega
    simp only [this]
theorem fixTo_other {r c y x : Nat} {g0 : List (List Int)} {L : List (List (List Int))} {k : Nat} {m : List (List Int)} {row : List Int} (hy : y < r) (hx : x < c) (hm : L[k]? = some m) (hrow : (fixTo r c g0 L k y x)[y]? = some row) (he : ¬ (if ∀ q ∈ L.take k, at2 q y x = at2 g0 y x then at2 g0 y x else -1) = at2 m y x) :
    (fixTo r c g0 L k y x).set y (row.set x (-1)) = fixTo r c g0 L k y (x + 1) := by
  obtain ⟨e1, -, -⟩ := fixTo_cell hy hx hrow
  rw [e1]
  unfold fixTo
  rw [imgFn_set _ hy]
  refine imgFn_congr fun i j _ _ => ?_
  by_cases hij : i = y ∧ j = x
  · rw [if_pos hij]
    obtain ⟨rfl, rfl⟩ := hij
    unfold fixAt
    rw [gD_some hm]
    by_cases hall : ∀ q ∈ L.take k, at2 q i j = at2 g0 i j
    · rw [if_pos hall] at he
      rw [if_neg (fun h => he (h.2 (.inr ⟨rfl, by omega⟩)).symm)]
    · rw [if_neg (fun h => hall h.1)]
  · rw [if_neg hij]
    unfold fixAt
    have : (i < y ∨ i = y ∧ j < x + 1) ↔ (i < y ∨ i = y ∧ j < x) := by omega
    simp only [this]
def fixedOf (xs ys : List Int) : List (List Int) := if existsB xs ys then fixG xs.length ys.length (imgsOf xs ys) else []
theorem imgsOf_shape {xs ys : List Int} : ∀ m ∈ imgsOf xs ys, Sums xs ys xs.length ys.length m := by
  intro m hm
  cases hok : sumsOk xs ys
  · rw [imgsOf_no hok] at hm; cases hm
  · rw [imgsOf_ok hok] at hm; exact (allImgs_mem hok m).1 hm
theorem FixedCells_i (v v2 : Value) (xs ys : List Int) (w : World) (hv : Ints w v xs) (hv2 : Ints w v2 ys) : Calls Tryz.prog 109 #[v, v2] w (New 32 (Own 3 IntV) w (fixedOf xs ys)) := by
  have Hv := Lib.hid hv
  have Hv2 := Lib.hid hv2
  obtain ⟨a, cap, rfl, -⟩ := hv
  obtain ⟨a2, cap2, rfl, -⟩ := hv2
  cases hex : existsB xs ys
  · have Hr := Lib.hid (show fixedOf xs ys = [] from by unfold fixedOf; rw [hex]; rfl)
    have Hi := Lib.hid (imgsOf_none hex)
    have Hex := Lib.hid hex
    clear hex
    go_enter Tryz.func109, Tryz.ntmps109
    go_wp2_with (fail)
    refine (AllImages_i _ _ _ _ _ Hv.out Hv2.out).mono ?_
    rintro e w1 ⟨v1, rfl, o1, b1⟩; rw [Hi.out] at o1; obtain ⟨aL, cL, rfl, -⟩ := id o1.grids; clear o1
    go_wp2
    go_ret
    exact ⟨_, rfl, by rw [Hr.out]; exact Own.nil _ _ _ _, b1⟩
  have hok := existsB_ok hex
  obtain ⟨x1, x5, y1, y5, -, -, -⟩ := sumsOk_bd hok
  have Hr := Lib.hid (show fixedOf xs ys = fixG xs.length ys.length (imgsOf xs ys) from by unfold fixedOf; rw [hex]; rfl)
  have hne := imgsOf_some hex
  have hLl := imgsOf_len xs ys
  have hsh := imgsOf_shape (xs := xs) (ys := ys)
  have hrows := rowsAll_eq hok
  rw [← imgsOf_ok hok] at hrows
  obtain ⟨h5, h6⟩ := sumsOk_5 hok
  obtain ⟨L, hL⟩ : ∃ L, L = imgsOf xs ys := ⟨_, rfl⟩
  rw [← hL] at hne hLl hsh Hr hrows
  have hL0 : 0 < L.length := List.length_pos_iff.2 hne
  obtain ⟨g0, hg0⟩ : ∃ g0, L[0]? = some g0 := ⟨_, List.getElem?_eq_getElem hL0⟩
  have Hg0 := Lib.hid hg0
  have Hsh := Lib.hid hsh
  have HL := Lib.hid hL
  have Hex := Lib.hid hex
  have Hrows := Lib.hid hrows
  have HgS := Lib.hid (hsh g0 (List.mem_of_getElem? hg0)).1
  have H56 := Lib.hid (And.intro h5 h6)
  have hlz : ((L.length : Int) == 0) = false := by rw [beq_eq_false_iff_ne]; omega
  clear hex hok hne hsh hg0 hL hrows h5 h6
  go_enter Tryz.func109, Tryz.ntmps109
  go_wp2_with (fail)
  refine (AllImages_i _ _ _ _ _ Hv.out Hv2.out).mono ?_
  rintro e w1 ⟨v1, rfl, o1, b1⟩; rw [← HL.out] at o1
  obtain ⟨gL, cL, rfl, -, -, -, -⟩ := o1.inv_ne hL0
  have HoL := Lib.hid (o1.sl (R' := Sl (Sl IntV)) (fun _ _ _ _ h => h.sl (fun _ _ _ _ h => h.sl (fun _ _ _ _ h => h) rIntV) (rSl rIntV)) (rSl (rSl rIntV)))
  obtain ⟨u0, hc0, hu0⟩ := Sl.at HoL.out Hg0.out
  rw [Nat.add_zero] at hc0
  have hG0 : Grid w1 u0 g0 := (rSl (rSl rIntV)).rd hu0
  obtain ⟨m1, m2, rfl, -⟩ := id hG0
  have hs1 := b1.size
  have HG0 := Lib.hid hG0
  have hml : g0.length ≤ 1048576 := by rw [HgS.out.1]; omega
  have HR := Lib.hid (show ∀ p ∈ g0, p.length ≤ 1048576 from fun p hp => by have := (HgS.out.2 p hp).1; omega)
  clear o1 hu0 hG0
  go_wp2_with (fail)
  refine (copyGrid_c _ g0 _ (by exact HG0.out) hml HR.out).mono ?_
  rintro e w2 ⟨v2, rfl, o2, b2⟩
  obtain ⟨g, c2, rfl, hg, hc2, -, -⟩ := o2.inv_ne (by rw [HgS.out.1]; omega)
  rw [HgS.out.1] at o2 hc2 ⊢
  have hs2 := b2.size
  have Ho2 := Lib.hid o2
  have HL2 := Lib.hid ((rSl (rSl (rSl rIntV))).same (sameOn_below b2 fun b hb => hb.2) HoL.out)
  have Hbb := Lib.hid (b1.trans_pure b2 (Nat.le_refl _))
  clear o2 hc0
  go_wp2
  go_loopw [29] (fun i wr => ∃ k : Nat, k ≤ L.length ∧ i = .int .i64 k ∧ Hid (Own 32 (Own 3 IntV) (Iv w1.heap.size w2.heap.size) wr (.slice (some ⟨g, 0, none⟩) xs.length c2) (fixTo xs.length ys.length g0 L k 0 0)) ∧ Hid (Below w1.heap.size w2 wr) ∧ wr.heap.size = w2.heap.size) (fun i _ => L.length - (intOf i).toNat)
  case atStart => exact ⟨0, Nat.zero_le _, rfl, by rw [fixTo_start HgS.out]; exact Ho2.out, Below.refl _ _, rfl⟩
  case round =>
    obtain ⟨k, hk, rfl, Hown, Hbel, hsz⟩ := hrel
    have Hsz := Lib.hid hsz
    clear hsz
    by_cases hlt : k < L.length
    · obtain ⟨m, hm⟩ : ∃ m, L[k]? = some m := ⟨_, List.getElem?_eq_getElem hlt⟩
      have HmS := Lib.hid (Hsh.out m (List.mem_of_getElem? hm)).1
      have HLr := Lib.hid ((rSl (rSl (rSl rIntV))).same (fun b hb => Hbel.out.block b hb.2) HL2.out)
      obtain ⟨um, hcm, hum⟩ := Sl.at HLr.out hm
      rw [Nat.zero_add] at hcm
      obtain ⟨am, cm, rfl, -⟩ := id hum
      have Hm := Lib.hid hm
      have Hum := Lib.hid hum
      have hml : m.length = xs.length := HmS.out.1
      rw [hml] at hcm
      obtain ⟨wo, hwo⟩ : ∃ wo, wo = wr := ⟨_, rfl⟩
      rw [← hwo] at Hum
      have Hwo := Lib.hid (show Below w1.heap.size wo wr from by rw [hwo]; exact Below.refl _ _)
      have Hwo2 := Lib.hid (show Below w1.heap.size w2 wo from by rw [hwo]; exact Hbel.out)
      clear hm hum hwo hml
      go_wp2
      go_loopw [35] (fun i wr => ∃ y : Nat, y ≤ xs.length ∧ i = .int .i64 y ∧ Hid (Own 32 (Own 3 IntV) (Iv w1.heap.size w2.heap.size) wr (.slice (some ⟨g, 0, none⟩) xs.length c2) (fixTo xs.length ys.length g0 L k y 0)) ∧ Hid (Below w1.heap.size wo wr) ∧ wr.heap.size = w2.heap.size) (fun i _ => xs.length - (intOf i).toNat)
      case atStart => exact ⟨0, Nat.zero_le _, rfl, Hown, Hwo, Hsz.out⟩
      case round =>
        clear Hown Hbel Hsz HLr hcm Hwo
        obtain ⟨y, hy, rfl, Hown, Hbel, hsz⟩ := hrel
        have Hsz := Lib.hid hsz
        clear hsz
        by_cases hlty : y < xs.length
        · obtain ⟨mrow, hmr⟩ : ∃ row, m[y]? = some row := ⟨_, (at2_row HmS.out hlty).1⟩
          have hmrl : mrow.length = ys.length := (HmS.out.2 mrow (List.mem_of_getElem? hmr)).1
          obtain ⟨bm, offm, cpm, he, hbm, -⟩ := Hum.out.inv_ne (by rw [HmS.out.1]; omega)
          obtain ⟨rfl, -⟩ : am = some ⟨bm, offm, none⟩ ∧ cm = cpm := by simpa using he
          obtain ⟨ur, hcr, hur⟩ := Sl.at ((rSl (rSl rIntV)).same (fun b hb => Hbel.out.block b hb.2) Hum.out) hmr
          obtain ⟨ar, crr, rfl, -⟩ := id hur
          rw [hmrl] at hcr
          have Hur := Lib.hid hur
          have Hmr := Lib.hid (show ∀ x, mrow.getD x 0 = at2 m y x from fun x => by unfold at2; rw [gD_some hmr])
          have Hmrl := Lib.hid hmrl
          obtain ⟨wp, hwp⟩ : ∃ wp, wp = wr := ⟨_, rfl⟩
          rw [← hwp] at Hur
          have Hwp := Lib.hid (show Below w1.heap.size wp wr from by rw [hwp]; exact Below.refl _ _)
          have Hwp2 := Lib.hid (show Below w1.heap.size wo wp from by rw [hwp]; exact Hbel.out)
          clear hmr hur he hwp hmrl
          go_wp2
          go_loopw [42] (fun i wr => ∃ x : Nat, x ≤ ys.length ∧ i = .int .i64 x ∧ Hid (Own 32 (Own 3 IntV) (Iv w1.heap.size w2.heap.size) wr (.slice (some ⟨g, 0, none⟩) xs.length c2) (fixTo xs.length ys.length g0 L k y x)) ∧ Hid (Below w1.heap.size wp wr) ∧ wr.heap.size = w2.heap.size) (fun i _ => ys.length - (intOf i).toNat)
          case atStart => exact ⟨0, Nat.zero_le _, rfl, Hown, Hwp, Hsz.out⟩
          case round =>
            clear Hown Hbel Hsz hcr Hwp
            obtain ⟨x, hx, rfl, Hown, Hbel, hsz⟩ := hrel
            have Hsz := Lib.hid hsz
            clear hsz
            by_cases hltx : x < ys.length
            · obtain ⟨z, hz⟩ : ∃ z, mrow[x]? = some z := ⟨_, List.getElem?_eq_getElem (by rw [Hmrl.out]; exact hltx)⟩
              obtain ⟨br, offr, cpr, he, hbr, -⟩ := Hur.out.inv_ne (by rw [Hmrl.out]; omega)
              obtain ⟨rfl, -⟩ : ar = some ⟨br, offr, none⟩ ∧ crr = cpr := by simpa using he
              obtain ⟨uz, hcz, rfl, -⟩ := Sl.at ((rSl rIntV).same (fun b hb => Hbel.out.block b hb.2) Hur.out) hz
              have hzz : z = at2 m y x := by rw [← Hmr.out x, gD_some hz]
              have hzb := at2_bits HmS.out y x
              rw [← hzz] at hzb
              obtain ⟨row, hrow⟩ : ∃ row, (fixTo xs.length ys.length g0 L k y x)[y]? = some row := ⟨_, imgFn_row _ hlty⟩
              obtain ⟨-, hrl, hrx⟩ := fixTo_cell hlty hltx hrow
              obtain ⟨q, cq, hcell, -, hq, -, hcq, hfree, hcells, hset⟩ := own_grid_cell Hown.out hrow (by rw [hrl]; omega)
              rw [hrl] at hcell hcq
              obtain ⟨o, ho⟩ : ∃ o, o = (if ∀ q ∈ L.take k, at2 q y x = at2 g0 y x then at2 g0 y x else -1) := ⟨_, rfl⟩
              rw [← ho] at hrx
              have hco := hcells x o hrx
              obtain ⟨-, hfo⟩ := hfree x (by rw [hrl]; exact hltx)
              have hqB := hq.1
              by_cases heq : o = z
              · have hne : (o != z) = false := by simp [heq]
                have Hsame := Lib.hid (show fixTo xs.length ys.length g0 L k y (x + 1) = fixTo xs.length ys.length g0 L k y x from fixTo_same Hm.out HmS.out (by rw [← ho, heq, hzz]))
                clear hz hzz hrow hrx hcells hset hfree ho heq he
                go_wp2
                go_roundw
                case rel => exact ⟨x + 1, by omega, by go_num, by rw [Hsame.out]; exact Hown.out, Hbel, Hsz.out⟩
                case measure => simp [intOf]; omega
              · have hne : (o != z) = true := by simp [heq]
                have Hset := Lib.hid (show Own 32 (Own 3 IntV) (Iv w1.heap.size w2.heap.size) (wr.setCell ⟨q, x, none⟩ (.int .i64 (-1))) (.slice (some ⟨g, 0, none⟩) xs.length c2) (fixTo xs.length ys.length g0 L k y (x + 1)) from by
                  have h := hset wr (fun _ _ => rfl) x (-1) (by rw [hrl]; exact hltx) (I64.small (by decide) (by decide))
                  rwa [fixTo_other hlty hltx Hm.out hrow (by rw [← ho, ← hzz]; exact heq)] at h)
                clear hz hzz hrow hrx hcells hset hfree ho heq he
                go_wp2
                go_roundw
                case rel => exact ⟨x + 1, by omega, by go_num, Hset, Hbel.out.setCell (show w1.heap.size ≤ (⟨q, x, none⟩ : Addr).block from hqB) _, by rw [size_setCell]; exact Hsz.out⟩
                case measure => simp [intOf]; omega
            · have e : x = ys.length := by omega
              have He := Lib.hid (show fixTo xs.length ys.length g0 L k (y + 1) 0 = fixTo xs.length ys.length g0 L k y x from by rw [e, fixTo_row])
              clear e
              go_wp2
              go_roundw
              case rel => exact ⟨y + 1, by omega, by go_num, by rw [He.out]; exact Hown.out, Hwp2.out.trans Hbel.out, Hsz.out⟩
              case measure => simp [intOf]; omega
        · have e : y = xs.length := by omega
          have He := Lib.hid (show fixTo xs.length ys.length g0 L (k + 1) 0 0 = fixTo xs.length ys.length g0 L k y 0 from by rw [e, fixTo_img Hm.out])
          clear e
          go_wp2
          go_roundw
          case rel => exact ⟨k + 1, by omega, by go_num, by rw [He.out]; exact Hown.out, Hwo2.out.trans Hbel.out, Hsz.out⟩
          case measure => simp [intOf]; omega
    · have He := Lib.hid (show fixTo xs.length ys.length g0 L k 0 0 = fixG xs.length ys.length L from fixTo_end Hg0.out (by omega))
      have hfin : Below w.heap.size w wr := Hbb.out.trans (Hbel.out.mono hs1)
      go_wp2
      go_ret
      refine ⟨_, rfl, ?_, hfin⟩
      rw [Hr.out, ← He.out, Hsz.out]
      exact (rOwn (rOwn rIntV)).mono (fun b hb => ⟨by have := hb.1; omega, hb.2⟩) Hown.out
theorem fixedOf_trits (xs ys : List Int) : Trits (fixedOf xs ys) := by
  unfold fixedOf
  cases h : existsB xs ys
  · exact ⟨by simp, by simp⟩
  · rw [if_pos rfl]
    have hok := existsB_ok h
    obtain ⟨-, x5, -, y5, -⟩ := sumsOk_bd hok
    refine ⟨by rw [fixG, imgFn_len]; exact x5, fun row hr => ?_⟩
    unfold fixG imgFn at hr
    obtain ⟨i, hi, rfl⟩ := List.mem_map.1 hr
    refine ⟨by simpa using y5, fun z hz => ?_⟩
    obtain ⟨j, hj, rfl⟩ := List.mem_map.1 hz
    have hb : 0 ≤ at2 ((imgsOf xs ys).headD []) i j ∧ at2 ((imgsOf xs ys).headD []) i j ≤ 1 := by
      obtain ⟨g0, hg0⟩ : ∃ g0, (imgsOf xs ys)[0]? = some g0 := ⟨_, List.getElem?_eq_getElem (List.length_pos_iff.2 (imgsOf_some h))⟩
      rw [headD_of hg0]
      exact at2_bits (imgsOf_shape g0 (List.mem_of_getElem? hg0)).1 i j
    dsimp only
    split <;> omega
def fixedText (xs ys : List Int) : ByteArray := signsOf (fixedOf xs ys)
theorem FixedLine_i (v v2 : Value) (xs ys : List Int) (w : World) (hv : Ints w v xs) (hv2 : Ints w v2 ys) : Calls Tryz.prog 50 #[v, v2] w fun e w' => e = .returned (.string (fixedText xs ys)) ∧ Below w.heap.size w w' := by
  have Hv := Lib.hid hv
  have Hv2 := Lib.hid hv2
  obtain ⟨a, cap, rfl, -⟩ := hv
  obtain ⟨a2, cap2, rfl, -⟩ := hv2
  go_enter Tryz.func50, Tryz.ntmps50
  go_wp2_with (fail)
  refine (FixedCells_i _ _ _ _ _ Hv.out Hv2.out).mono ?_
  rintro e w1 ⟨v1, rfl, o1, b1⟩
  have Hg := Lib.hid o1.grid
  obtain ⟨p1, p2, p3, rfl⟩ := o1.shape
  clear o1
  go_wp2_with (fail)
  refine (signs_c _ _ _ Hg.out (fixedOf_trits xs ys)).mono ?_
  rintro e w2 ⟨rfl, b2⟩
  have hb := b1.trans_pure b2 (Nat.le_refl _)
  have Hr := Lib.hid (show fixedText xs ys = signsOf (fixedOf xs ys) from rfl)
  rw [← Hr.out]
  go_wp2
  go_ret
  exact ⟨rfl, hb⟩
def negRow (l : List Int) : Nat := (l.filter fun x => decide (x < 0)).length
def negs (F : List (List Int)) : Nat := (F.map negRow).sum
theorem negRow_take {l : List Int} {k : Nat} {x : Int} (h : l[k]? = some x) : negRow (l.take (k + 1)) = negRow (l.take k) + if x < 0 then 1 else 0 := by
  unfold negRow
  rw [List.take_add_one, h, Option.toList_some, List.filter_append, List.length_append]
  by_cases hx : x < 0 <;> simp [hx]
theorem negRow_le (l : List Int) : negRow l ≤ l.length := List.length_filter_le _ _
theorem negs_take {F : List (List Int)} {k : Nat} {l : List Int} (h : F[k]? = some l) : negs (F.take (k + 1)) = negs (F.take k) + negRow l := by
  unfold negs
  rw [List.take_add_one, h, Option.toList_some, List.map_append, List.sum_append]; simp
theorem negRow_zero {l : List Int} : negRow l = 0 ↔ ∀ x ∈ l, 0 ≤ x := by
  unfold negRow
  rw [List.length_eq_zero_iff, List.filter_eq_nil_iff]
  constructor
  · intro h x hx; have := h x hx; simp at this; exact this
  · intro h x hx; have := h x hx; simp; exact this
theorem negs_zero {F : List (List Int)} : negs F = 0 ↔ ∀ l ∈ F, ∀ x ∈ l, 0 ≤ x := by
  induction F with
  | nil => simp [negs]
  | cons l F ih =>
    have e : negs (l :: F) = negRow l + negs F := by simp [negs]
    rw [e]
    constructor
    · intro h k hk
      rcases List.mem_cons.1 hk with rfl | hk
      · exact negRow_zero.1 (by omega)
      · exact ih.1 (by omega) k hk
    · intro h
      have h1 := negRow_zero.2 (h l (by simp))
      have h2 := ih.2 fun k hk => h k (by simp [hk])
      omega
structure FixOk (r c : Nat) (m F : List (List Int)) : Prop where
  len : F.length = r
  row : ∀ y, y < r → ∃ l, F[y]? = some l ∧ l.length = c ∧ ∀ x, x < c → ∃ f, l[x]? = some f ∧ (f = -1 ∨ f = at2 m y x)
  zero : negs F = 0 ↔ switchesOf r c m = []
  text : 0 < (signsOf F).size
theorem signs_pos {F : List (List Int)} {c : Nat} (hF : F ≠ []) (hc : 1 ≤ c) (hl : ∀ l ∈ F, l.length = c) : 0 < (signsOf F).size := by
  obtain ⟨G, x, rfl⟩ : ∃ G x, F = G ++ [x] := ⟨F.dropLast, F.getLast hF, (List.dropLast_concat_getLast hF).symm⟩
  have hx := hl x (by simp)
  unfold signsOf
  rw [List.map_append]
  by_cases hG : G.map signRow = []
  · rw [hG]
    simp only [List.map_cons, List.map_nil, List.nil_append]
    rw [joinB_one, signRow_size]; omega
  · simp only [List.map_cons, List.map_nil]
    rw [joinB_snoc _ _ hG, ByteArray.size_append, signRow_size]; omega
theorem fix_ok {r c : Nat} {m : List (List Int)} (hs : Shape r c m) (hr1 : 1 ≤ r) (hr5 : r ≤ 5) (hc1 : 1 ≤ c) (hc5 : c ≤ 5) : FixOk r c m (fixedOf (rowSumsOf m) (colSumsOf m)) := by
  have hS := sums_of_image hs hr1 hr5 hc1 hc5
  have hrl := (rowSumsOf_wf hs hr1 hr5 hc1 hc5).1
  have hcl := (colSumsOf_wf hs hr1 hr5 hc1 hc5).1
  have hok : sumsOk (rowSumsOf m) (colSumsOf m) = true := sumsOk_of (by omega) (by omega) (by omega) (by omega) (by rw [hrl, hcl]; exact hS)
  have hex : existsB (rowSumsOf m) (colSumsOf m) = true := (existsB_iff hok).2 ⟨m, by rw [hrl, hcl]; exact hS⟩
  have hmem : ∀ g, g ∈ imgsOf (rowSumsOf m) (colSumsOf m) ↔ Sums (rowSumsOf m) (colSumsOf m) r c g := fun g => by
    rw [imgsOf_ok hok, allImgs_mem hok, hrl, hcl]
  have hm := (hmem m).2 hS
  obtain ⟨L, hL⟩ : ∃ L, L = imgsOf (rowSumsOf m) (colSumsOf m) := ⟨_, rfl⟩
  rw [← hL] at hm hmem
  have hh : L.headD [] ∈ L := by
    cases L with
    | nil => cases hm
    | cons a l => simp
  have hF : fixedOf (rowSumsOf m) (colSumsOf m) = imgFn r c fun i j => if ∀ g ∈ L, at2 g i j = at2 m i j then at2 m i j else -1 := by
    unfold fixedOf
    rw [if_pos hex, hrl, hcl, ← hL]
    unfold fixG
    refine imgFn_congr fun i j _ _ => ?_
    by_cases h : ∀ g ∈ L, at2 g i j = at2 (L.headD []) i j
    · rw [if_pos h, if_pos fun g hg => (h g hg).trans (h m hm).symm, h m hm]
    · rw [if_neg h, if_neg fun h' => h fun g hg => (h' g hg).trans (h' _ hh).symm]
  rw [hF]
  have hrow := fun y (hy : y < r) => imgFn_row (c := c) (fun i j => if ∀ g ∈ L, at2 g i j = at2 m i j then at2 m i j else -1) hy
  refine ⟨imgFn_len _ _ _, fun y hy => ⟨_, hrow y hy, by simp, fun x hx => ⟨if ∀ g ∈ L, at2 g y x = at2 m y x then at2 m y x else -1, ?_, ?_⟩⟩, ?_, ?_⟩
  · rw [List.getElem?_map, List.getElem?_range hx]; rfl
  · split
    · exact .inr rfl
    · exact .inl rfl
  · rw [negs_zero]
    have hu := unique_iff hS
    constructor
    · intro h
      have hall : ∀ g, Sums (rowSumsOf m) (colSumsOf m) r c g → g = m := fun g hg => by
        refine hg.1.ext hs fun i j hi hj => ?_
        have h1 := h _ (List.mem_of_getElem? (hrow i hi)) _ (List.mem_map.2 ⟨j, List.mem_range.2 hj, rfl⟩)
        split at h1
        · rename_i h2; exact h2 g ((hmem g).2 hg)
        · omega
      have := hu.1 hall
      rw [List.eq_nil_iff_forall_not_mem]
      exact fun s hs' => this s (switchesOf_mem.1 hs')
    · intro h l hl x hx
      have hall := hu.2 fun s hs' => by
        have := switchesOf_mem.2 hs'
        rw [h] at this; cases this
      unfold imgFn at hl
      obtain ⟨i, hi, rfl⟩ := List.mem_map.1 hl
      obtain ⟨j, hj, rfl⟩ := List.mem_map.1 hx
      dsimp only
      rw [if_pos fun g hg => by rw [hall g ((hmem g).1 hg)]]
      exact (at2_bits hs i j).1
  · refine signs_pos (c := c) (fun e => ?_) hc1 fun l hl => ?_
    · have := imgFn_len r c (fun i j => if ∀ g ∈ L, at2 g i j = at2 m i j then at2 m i j else -1)
      rw [e] at this; simp at this; omega
    · unfold imgFn at hl
      obtain ⟨i, hi, rfl⟩ := List.mem_map.1 hl
      simp
theorem IsUnique_i (v : Value) (m : List (List Int)) (r c : Nat) (w : World) (hv : Grid w v m) (hs : Shape r c m) (hr1 : 1 ≤ r) (hr5 : r ≤ 5) (hc1 : 1 ≤ c) (hc5 : c ≤ 5) : Calls Tryz.prog 103 #[v] w fun e w' => e = .returned (.bool (decide (switchesOf r c m = []))) ∧ Below w.heap.size w w' := by
  have Hv := Lib.hid hv
  have Hok := Lib.hid (hs.ok hr1 hr5 hc1 hc5)
  obtain ⟨a, cap, rfl, -⟩ := hv
  go_enter Tryz.func103, Tryz.ntmps103
  go_wp2_with (fail)
  refine (ImageOk_i _ _ _ Hv.out).mono ?_
  rintro e w' ⟨rfl, rfl⟩
  rw [Hok.out]
  go_wp2_with (fail)
  refine (SwitchesOf_i _ m r c _ Hv.out hs hr1 hr5 hc1 hc5).mono ?_
  rintro e w1 ⟨v1, rfl, o1, b1⟩
  obtain ⟨a1, c1, rfl⟩ := o1.shape
  obtain ⟨l, hl⟩ : ∃ l, l = switchesOf r c m := ⟨_, rfl⟩
  rw [← hl]
  clear o1
  cases l with
  | nil =>
    have He := Lib.hid (show true = decide (switchesOf r c m = []) from by rw [← hl]; rfl)
    clear hl
    go_wp2
    go_ret
    exact ⟨retB He.out, b1⟩
  | cons s l =>
    have hd : (((s :: l).length : Int) == 0) = false := by rw [beq_eq_false_iff_ne, List.length_cons]; omega
    obtain ⟨n, hn⟩ : ∃ n, n = (s :: l).length := ⟨_, rfl⟩
    rw [← hn] at hd ⊢
    have He := Lib.hid (show false = decide (switchesOf r c m = []) from by rw [← hl]; simp)
    clear hn hl
    go_wp2
    go_ret
    exact ⟨retB He.out, b1⟩
theorem FreeCells_i (v : Value) (m : List (List Int)) (r c : Nat) (w : World) (hv : Grid w v m) (hs : Shape r c m) (hr1 : 1 ≤ r) (hr5 : r ≤ 5) (hc1 : 1 ≤ c) (hc5 : c ≤ 5) : Calls Tryz.prog 104 #[v] w fun e w' => e = .returned (.int .i64 (negs (fixedOf (rowSumsOf m) (colSumsOf m)))) ∧ Below w.heap.size w w' := by
  have Hv := Lib.hid hv
  have Hok := Lib.hid (hs.ok hr1 hr5 hc1 hc5)
  have hfix := fix_ok hs hr1 hr5 hc1 hc5
  obtain ⟨F, hF⟩ : ∃ F, F = fixedOf (rowSumsOf m) (colSumsOf m) := ⟨_, rfl⟩
  rw [← hF] at hfix ⊢
  have HF := Lib.hid hF; clear hF
  have Hfix := Lib.hid hfix; clear hfix
  obtain ⟨a, cap, rfl, -⟩ := hv
  go_enter Tryz.func104, Tryz.ntmps104
  go_wp2_with (fail)
  refine (ImageOk_i _ _ _ Hv.out).mono ?_
  rintro e w' ⟨rfl, rfl⟩
  rw [Hok.out]
  go_wp2_with (fail)
  refine (RowSums_i _ _ _ Hv.out).mono ?_
  rintro e w1 ⟨v1, rfl, o1, b1⟩
  have Ho1 := Lib.hid o1.ints; clear o1
  go_wp2_with (fail)
  refine (ColSums_i _ _ _ (Hv.out.keep b1)).mono ?_
  rintro e w2 ⟨v2, rfl, o2, b2⟩
  go_wp2_with (fail)
  refine (FixedCells_i _ _ _ _ _ (Ho1.out.keep b2) o2.ints).mono ?_
  rintro e w3 ⟨v3, rfl, o3, b3⟩
  rw [← HF.out] at o3
  have bb : Below w.heap.size w w3 := b1.trans_pure (b2.trans_pure b3 (Nat.le_refl _)) (Nat.le_refl _)
  obtain ⟨g, gc, rfl, -, -, hgl, -⟩ := o3.inv_ne (by rw [Hfix.out.len]; omega)
  have Hg := Lib.hid o3.grid
  have hFl := Hfix.out.len
  rw [hFl] at Hg ⊢
  clear o2 o3 hFl
  go_wp2
  go_loopw [3, 5, 7, 17] (fun n _ _ i wr => ∃ k : Nat, k ≤ r ∧ i = .int .i64 k ∧ n = .int .i64 (negs (F.take k)) ∧ negs (F.take k) ≤ 5 * k ∧ w3 = wr) (fun _ _ _ i _ => r - (intOf i).toNat)
  case atStart => exact ⟨0, Nat.zero_le _, rfl, by simp [negs], by simp [negs], rfl⟩
  case round =>
    obtain ⟨k, hk, rfl, rfl, hn, rfl⟩ := hrel
    by_cases hlt : k < r
    · obtain ⟨l, hl, hll, hlc⟩ := Hfix.out.row k hlt
      obtain ⟨u, hck, hu⟩ := Sl.at Hg.out hl
      have hu : Ints w3 u l := hu
      obtain ⟨br, offr, cpr, rfl, hbr, -⟩ := hu.inv_ne (by omega)
      rw [Nat.zero_add] at hck
      have Hu := Lib.hid hu
      have Hl := Lib.hid hl
      have Hll := Lib.hid hll
      rw [hll] at hck
      clear hu hl hlc
      obtain ⟨N, hN⟩ : ∃ N, N = negs (F.take k) := ⟨_, rfl⟩
      rw [← hN] at hn ⊢
      go_wp2
      go_loopw [3, 7, 23] (fun n _ i wr => ∃ x : Nat, x ≤ c ∧ i = .int .i64 x ∧ n = .int .i64 ((N + negRow (l.take x) : Nat) : Int) ∧ negRow (l.take x) ≤ x ∧ w3 = wr) (fun _ _ i _ => c - (intOf i).toNat)
      case atStart => exact ⟨0, Nat.zero_le _, rfl, by simp [negRow], by simp [negRow], rfl⟩
      case round =>
        obtain ⟨x, hx, rfl, rfl, hnx, rfl⟩ := hrel
        by_cases hlt2 : x < c
        · obtain ⟨z, hz⟩ : ∃ z, l[x]? = some z := ⟨_, List.getElem?_eq_getElem (by have := Hll.out; omega)⟩
          have hcz := Ints.at Hu.out hz
          have Hn := Lib.hid (negRow_take hz)
          clear hz
          obtain ⟨N2, hN2⟩ : ∃ N2, N2 = negRow (l.take x) := ⟨_, rfl⟩
          rw [← hN2] at hnx ⊢ Hn
          clear hN2
          by_cases hz0 : z < 0
          · have hzd : decide (z < 0) = true := by simpa using hz0
            go_wp2
            go_roundw
            case rel => exact ⟨x + 1, by omega, by go_num, by rw [Hn.out, if_pos hz0]; go_num, by rw [Hn.out, if_pos hz0]; omega, trivial⟩
            case measure => simp [intOf]; omega
          · have hzd : decide (z < 0) = false := by simpa using hz0
            go_wp2
            go_roundw
            case rel => exact ⟨x + 1, by omega, by go_num, by rw [Hn.out, if_neg hz0, Nat.add_zero], by rw [Hn.out, if_neg hz0]; omega, trivial⟩
            case measure => simp [intOf]; omega
        · obtain rfl : x = c := by omega
          have hlast : l.take x = l := List.take_of_length_le (Nat.le_of_eq Hll.out)
          rw [hlast] at hnx ⊢
          have Hs := Lib.hid (negs_take Hl.out)
          go_wp2
          go_roundw
          case rel => exact ⟨k + 1, by omega, by go_num, by rw [Hs.out, ← hN], by rw [Hs.out, ← hN]; omega, trivial⟩
          case measure => simp [intOf]; omega
    · obtain rfl : k = r := by omega
      rw [List.take_of_length_le (Nat.le_of_eq Hfix.out.len)] at hn ⊢
      go_wp2
      go_ret
      exact ⟨rfl, bb⟩
end Go.Proofs.YthmocomfjgmjoaaGreatDoor

/- RunLine of the program: what commands of two and more words need. -/
import Derived.Test.YthmocomfjgmjoaaGreatDoorKRa
import Derived.Test.YthmocomfjgmjoaaGreatDoorQ27
import Derived.Test.YthmocomfjgmjoaaGreatDoorQ24
import Derived.Test.YthmocomfjgmjoaaGreatDoorQ25
import Derived.Test.YthmocomfjgmjoaaGreatDoorQ07
namespace Go.Proofs.YthmocomfjgmjoaaGreatDoor
open Go.RowKit
structure NotNine (s : ByteArray) : Prop where
  z0 : (s.toList == [115, 104, 111, 119]) = false
  z1 : (s.toList == [98, 117, 105, 108, 100]) = false
  z2 : (s.toList == [108, 101, 97, 115, 116]) = false
  z3 : (s.toList == [97, 108, 108]) = false
  z4 : (s.toList == [102, 105, 120, 101, 100]) = false
  z5 : (s.toList == [99, 111, 110, 118, 101, 120]) = false
  z6 : (s.toList == [114, 101, 118, 101, 97, 108]) = false
  z7 : (s.toList == [114, 101, 112, 97, 105, 114]) = false
  z8 : (s.toList == [112, 117, 122, 122, 108, 101]) = false
noncomputable def numsOf (l : List ByteArray) : List Int := (l.filter parseYes).map parseVal
theorem numsOf_step {l : List ByteArray} {j : Nat} {q : ByteArray} (h : l[j]? = some q) : numsOf (l.take (j + 1)) = if parseYes q = true then numsOf (l.take j) ++ [parseVal q] else numsOf (l.take j) := by
  unfold numsOf
  rw [List.take_add_one, h, List.filter_append, List.map_append]
  cases hy : parseYes q <;> simp [hy]
theorem numsOf_len (l : List ByteArray) : (numsOf l).length ≤ l.length := by
  unfold numsOf
  rw [List.length_map]
  exact List.length_filter_le _ _
theorem numsOf_all {l : List ByteArray} (h : l.all parseYes = true) : numsOf l = l.map parseVal := by
  unfold numsOf
  rw [List.filter_eq_self.2 (by simpa using h)]
theorem numsOf_full {l : List ByteArray} (h : (numsOf l).length = l.length) : l.all parseYes = true := by
  unfold numsOf at h
  rw [List.length_map] at h
  have := List.length_filter_eq_length_iff.1 h
  simpa using this
theorem line_facts {s : ByteArray} (h : isSaid s = false) : ∃ h0 : 0 < s.size, (((s[0]'h0).toNat : Int) == 35) = false ∧ s.toList.isEmpty = false := by
  obtain ⟨b, l, hl, hb⟩ := notSaid_cases h
  have hsz : 0 < s.size := by rw [ba_size, hl]; simp
  have hb0 : s[0]'hsz = b := by
    have := ba_at hsz
    rw [hl] at this
    simpa using this.symm
  refine ⟨hsz, u8_ne (a := s[0]'hsz) (b := 35) (by rw [hb0]; exact hb), ba_empty_isEmpty (by intro e; rw [e] at hsz; simp at hsz)⟩
theorem args_size {s : ByteArray} {b : UInt8} {wd : ByteArray} {al : List ByteArray} (h : splitB s b = wd :: al) (hs : s.size ≤ 1048576) : ∀ t ∈ al, t.size ≤ 1048576 :=
  fun t ht => Nat.le_trans (splitB_part_size s b t (by rw [h]; exact List.mem_cons_of_mem _ ht)) hs
theorem args_len {s : ByteArray} {b : UInt8} {wd : ByteArray} {al : List ByteArray} (h : splitB s b = wd :: al) (hs : s.size ≤ 1048576) : al.length ≤ 1048577 := by
  have := splitB_len s b
  rw [h, List.length_cons] at this
  omega
theorem Strs.at1 {w : World} {g n c : Nat} {wd : ByteArray} {l : List ByteArray} (h : Strs w (.slice (some ⟨g, 0, none⟩) n c) (wd :: l)) {k : Nat} {x : ByteArray} (hk : l[k]? = some x) : w.cell? ⟨g, 1 + k, none⟩ = some (.string x) := by
  rw [Nat.add_comm]
  exact Strs.at0 h (k := k + 1) (by simpa using hk)
theorem ba_lit_ne {s : ByteArray} {l : List UInt8} {t : ByteArray} (ht : t.data.toList = l) (h : s ≠ t) : (s.toList == l) = false := by
  have h1 : s.toList ≠ l := by
    intro e
    apply h
    apply ba_ext
    rw [ht, ← e, ByteArray.toList_eq]
  simpa using h1
theorem two_words {s : ByteArray} {wd : ByteArray} {al : List ByteArray} (h : splitB s 32 = wd :: al) (hne : al ≠ []) {t : ByteArray} (ht : splitB t 32 = [t]) : s ≠ t := by
  intro e
  rw [e, ht] at h
  simp at h
  exact hne h.2
def nearX (c : Con) (m : List (List Int)) : Option (List (List Int)) → Con × ByteArray
  | none => (c, noneB)
  | some x => (c, formatImage x ++ ⟨#[32]⟩ ++ fmtInt (distG c.rows.length c.cols.length x m))
def nearR (c : Con) (m : List (List Int)) : Con × ByteArray := nearX c m (nearG c.rows c.cols m)
theorem nearR_of (c : Con) (m : List (List Int)) {o : Option (List (List Int))} (h : nearG c.rows c.cols m = o) : nearR c m = nearX c m o := by
  subst h; rfl
theorem near_64 {xs ys : List Int} {p x : List (List Int)} (h : nearG xs ys p = some x) : I64 (distG xs.length ys.length x p) := by
  have hok : sumsOk xs ys = true := by
    cases hz : sumsOk xs ys with
    | true => rfl
    | false =>
      unfold nearG at h
      rw [show imgsOf xs ys = [] from by unfold imgsOf; rw [hz]; rfl] at h
      split at h <;> simp [nearL] at h
  obtain ⟨-, x5, -, y5, -⟩ := sumsOk_bd hok
  obtain ⟨d1, d2⟩ := distG_bd ys.length x p xs.length
  have h25 : xs.length * ys.length ≤ 5 * 5 := Nat.mul_le_mul x5 y5
  exact I64.small (by omega) (by omega)
theorem nearSz (x : List (List Int)) {D : Int} (hD : I64 D) : (formatImage x).size ≤ 1000 ∧ (formatImage x ++ ⟨#[32]⟩ : ByteArray).size ≤ 1001 ∧ (fmtInt D).size ≤ 20 := by
  have a := formatImage_le x
  have e2 : (⟨#[32]⟩ : ByteArray).size = 1 := rfl
  refine ⟨a, ?_, fmt_size hD⟩
  rw [ba_append_size, e2]
  omega
theorem celG_range (m : List (List Int)) (y x : Int) : -1 ≤ celG m y x ∧ celG m y x ≤ 1 := by
  cases hh : hasG m y x
  · simp [celG, hh]
  · have e : celG m y x = at2 m y.toNat x.toNat := by simp [celG, hh]
    have hok : imageOk m = true := by unfold hasG at hh; rw [Bool.and_eq_true] at hh; exact hh.1
    obtain ⟨r, c, h1, h2, h3, h4, hs⟩ := imageOk_shape hok
    have := at2_bits hs y.toNat x.toNat
    rw [e]
    omega
theorem lineSums_len (m : List (List Int)) (dx dy : Int) : (lineSums m dx dy).length ≤ 25 := by
  by_cases h : imageOk m = true ∧ dirOkB dx dy = true
  · obtain ⟨r, c, h1, h2, h3, h4, hs⟩ := imageOk_shape h.1
    rw [lineSums_ok hs h1 h.1 h.2, lnAll_len, List.length_replicate]
    have := nLn_range (dirOkB_bd h.2) h1 h2 h3 h4
    omega
  · rw [lineSums_no h]; simp
theorem LsRes.nil {w : World} {e : Ending} {w' : World} (h : LsRes w [] e w') : e = .returned (.slice none 0 0) ∧ Below w.heap.size w w' := by
  obtain ⟨v, rfl, -, hb, h⟩ := h
  rcases h with ⟨rfl, -⟩ | ⟨g, c, -, hp⟩
  · exact ⟨rfl, hb⟩
  · simp at hp
def LsSome (w : World) (l : List Int) (e : Ending) (w' : World) : Prop := ∃ g c, e = .returned (.slice (some ⟨g, 0, none⟩) l.length c) ∧ Ints w' (.slice (some ⟨g, 0, none⟩) l.length c) l ∧ Below w.heap.size w w'
theorem LsRes.cons {w : World} {l : List Int} {e : Ending} {w' : World} (hl : l ≠ []) (h : LsRes w l e w') : LsSome w l e w' := by
  obtain ⟨v, rfl, o, hb, h⟩ := h
  rcases h with ⟨-, h0⟩ | ⟨g, c, rfl, -⟩
  · exact absurd h0 hl
  · exact ⟨g, c, rfl, o.ints, hb⟩
theorem set3_cell (w : World) (g : Nat) (a b c : Value) {p : Addr} (hp : p.block ≠ g) : (((w.setCell ⟨g, 0, none⟩ a).setCell ⟨g, 1, none⟩ b).setCell ⟨g, 2, none⟩ c).cell? p = w.cell? p := World.cell?_of_block (set3_same w g a b c p.block hp)
theorem RlSt.put3 {w W W' : World} {lo Bo l1 h1 l2 h2 l3 h3 : Nat} {a b c a' b' c' va vb vc : Value} {k k' : Con} {m : List (List Int)} {x y : List Int} (st : RlSt w W lo Bo a b c a' b' c' k k') (oa : Own 32 (Own 3 IntV) (Iv l1 h1) W va m) (ob : Own 3 IntV (Iv l2 h2) W vb x) (oc : Own 3 IntV (Iv l3 h3) W vc y)
    (hl : Bo < l1) (hl2 : Bo < l2) (e1 : h1 ≤ l2) (e2 : h2 ≤ l3) (e3 : h3 ≤ W.heap.size) (e4 : h1 ≤ l3) (hl3 : Bo < l3) (e5 : h1 ≤ W.heap.size) (e6 : h2 ≤ W.heap.size) (on : Only (fun x => x = Bo) W W') : RlEnd w W' va vb vc ⟨m, x, y⟩ := by
  have g1 := st.hlo
  have g2 := st.hlb
  have g3 := st.ko.lt
  have g4 := on.size
  have g5 : w.heap.size ≤ W.heap.size := st.base.size
  refine ⟨st.base.trans (on.below (by omega) (fun b hb => by have : b = Bo := hb; omega)), st.kr.only on (fun e => by have : w.heap.size + 1 = Bo := e; omega), OwnC.of (l1 := l1) (h1 := h1) (l2 := l2) (h2 := h2) (l3 := l3) (h3 := h3) ?_ ?_ ?_ ?_ ?_ ?_ (.inl e1) (.inl e4) (.inl e2)⟩
  · exact Own.only (rOwn rIntV) oa on (fun b hb => by have := hb.2; omega) (fun b hb e => by have := hb.1; have : b = Bo := e; omega)
  · exact Own.only rIntV ob on (fun b hb => by have := hb.2; omega) (fun b hb e => by have := hb.1; have : b = Bo := e; omega)
  · exact Own.only rIntV oc on (fun b hb => by have := hb.2; omega) (fun b hb e => by have := hb.1; have : b = Bo := e; omega)
  · intro _ hx; have := hx.1; have := hx.2; omega
  · intro _ hx; have := hx.1; have := hx.2; omega
  · intro _ hx; have := hx.1; have := hx.2; omega
theorem RlSt.put2 {w W W' : World} {lo Bo l2 h2 l3 h3 : Nat} {a b c a' b' c' vb vc : Value} {k k' : Con} {x y : List Int} (st : RlSt w W lo Bo a b c a' b' c' k k') (ob : Own 3 IntV (Iv l2 h2) W vb x) (oc : Own 3 IntV (Iv l3 h3) W vc y)
    (hl2 : Bo < l2) (e2 : h2 ≤ l3) (e3 : h3 ≤ W.heap.size) (hl3 : Bo < l3) (e6 : h2 ≤ W.heap.size) (on : Only (fun x => x = Bo) W W') : RlEnd w W' a' vb vc ⟨k'.img, x, y⟩ := by
  have g1 := st.hlo
  have g2 := st.hlb
  have g3 := st.ko.lt
  have g4 := on.size
  have g5 : w.heap.size ≤ W.heap.size := st.base.size
  obtain ⟨Sa, Sb, Sc, s1, s2, s3, d1, d2, d3, o1, o2, o3⟩ := st.own
  refine ⟨st.base.trans (on.below (by omega) (fun b hb => by have : b = Bo := hb; omega)), st.kr.only on (fun e => by have : w.heap.size + 1 = Bo := e; omega), ⟨Sa, Iv l2 h2, Iv l3 h3, ?_, ?_, ?_, ?_, ?_, ?_, ?_, ?_, ?_⟩⟩
  · intro x hx; have := (s1 x hx).1; have := (s1 x hx).2; omega
  · intro _ hx; have := hx.1; have := hx.2; omega
  · intro _ hx; have := hx.1; have := hx.2; omega
  · intro x hx hy; have := hy.1; have := (s1 x hx).2; omega
  · intro x hx hy; have := hy.1; have := (s1 x hx).2; omega
  · intro x hx hy; have := hx.2; have := hy.1; omega
  · exact Own.only (rOwn rIntV) o1 on (fun b hb => by have := (s1 b hb).2; omega) (fun b hb e => by have := (s1 b hb).2; have : b = Bo := e; omega)
  · exact Own.only rIntV ob on (fun b hb => by have := hb.2; omega) (fun b hb e => by have := hb.1; have : b = Bo := e; omega)
  · exact Own.only rIntV oc on (fun b hb => by have := hb.2; omega) (fun b hb e => by have := hb.1; have : b = Bo := e; omega)
def PutRes (w W : World) (Bo : Nat) (b c : Value) (r : Con × ByteArray) (e : Ending) (w' : World) : Prop := ∃ x1 x2 x3, e = .returned (.tuple #[.agg #[.slice x1 x2 x3, b, c], .string r.2]) ∧ RlEnd w w' (.slice x1 x2 x3) b c r.1 ∧ Only (fun x => x = Bo) W w'
theorem put_any {w W : World} {lo Bo l h : Nat} {a b c : Value} {a1 b1 c1 m1 : Option Addr} {a2 a3 b2 b3 c2 c3 m2 m3 : Nat} {k k' : Con} {o : Option (List (List Int))} (st : RlSt w W lo Bo a b c (.slice a1 a2 a3) (.slice b1 b2 b3) (.slice c1 c2 c3) k k')
    (om : Own 32 (Own 3 IntV) (Iv l h) W (.slice m1 m2 m3) (o.getD [])) (hl : Bo < l) (hh : h ≤ W.heap.size) :
    Calls Tryz.prog 29 #[.slice m1 m2 m3, .bool o.isSome, .pointer (some ⟨Bo, 0, none⟩)] W (PutRes w W Bo (.slice b1 b2 b3) (.slice c1 c2 c3) (putR k' o)) := by
  cases o with
  | none =>
    refine (put_no Bo _ _ _ _ _ _ _ _ _ _ _ _ _ st.ko).mono ?_
    rintro e w' ⟨rfl, y⟩
    exact ⟨_, _, _, rfl, (st.keep y).done, Only.of_pure y _⟩
  | some m =>
    refine (put_yes Bo l h _ _ _ _ _ _ _ _ _ _ _ _ m _ st.ko om hh (.inl hl)).mono ?_
    rintro e w' ⟨rfl, on⟩
    exact ⟨_, _, _, rfl, st.put om hl hh on, on⟩
end Go.Proofs.YthmocomfjgmjoaaGreatDoor

/- Contracts: slices of texts: equal, marked, held; ImageLines. -/
import Derived.Test.YtadbiefcpjcinaaG1
import Derived.Test.YtadbiefcpjcinaaF1
import Derived.Test.YtadbiefcpjcinaaT3
namespace Go.Proofs.Ytadbiefcpjcinaa
open Go.RowKit

theorem map_take_G {α β : Type} (f : α → β) {l : List α} {k : Nat} {x : α} (h : l[k]? = some x) : (l.take (k + 1)).map f = (l.take k).map f ++ [f x] := by
  rw [List.take_add_one, h]; simp
theorem formatImage_size (m : List (List Int)) : (formatImage m).size ≤ 1048576 := by
  unfold formatImage
  split
  · rename_i hok
    have h2 := (imageOk_trits hok).bulk
    have h3 := joinB_size ⟨#[47]⟩ (m.map signRow)
    unfold signsOf; omega
  · simp
def imgLines (xs : List (List (List Int))) : List ByteArray := xs.map formatImage
theorem imgLines_len (xs : List (List (List Int))) : (imgLines xs).length = xs.length := List.length_map _
theorem Own.strs {E : TypeId} {S : Bk} {w : World} {v : Value} {xs : List ByteArray} (h : Own E StrV S w v xs) : Strs w v xs := (rSl rStrV).rd (h.sl (fun _ _ _ _ h => h) rStrV)
theorem bulk3_bd1 {g : List (List (List Int))} {n : Nat} (h : bulk3 g ≤ n) (hn : 1 ≤ n) : 1 + (cells3 g : Int) ≤ n := by
  obtain ⟨-, h2, -⟩ := bulk3_bd h
  cases g with
  | nil => simp [cells3]; omega
  | cons a g =>
    have e1 : bulk3 (a :: g) = (a :: g).length + bk3 (a :: g) := rfl
    have h3 : cells3 (a :: g) ≤ bk3 (a :: g) := by
      have := (bulk3_bd (g := a :: g) (n := bulk3 (a :: g)) (Nat.le_refl _))
      clear h h2 e1
      have key : ∀ g : List (List (List Int)), cells3 g ≤ bk3 g := by
        intro g
        induction g with
        | nil => simp [cells3, bk3]
        | cons a g ih =>
          have e1 : cells3 (a :: g) = cells a + cells3 g := by simp [cells3]
          have e2 : bk3 (a :: g) = bulk a + bk3 g := by simp [bk3]
          have e3 : bulk a = a.length + cells a := rfl
          omega
      exact key _
    rw [List.length_cons] at e1
    omega
set_option maxRecDepth 100000 in
set_option maxHeartbeats 800000 in
theorem ImageLines_i (v : Value) (l : List (List (List Int))) (w : World) (hv : Grids w v l) (hl : l.length ≤ 2097152) : Calls Try.prog 39 #[v] w (New 9 StrV w (imgLines l)) := by
  have Hv := Lib.hid hv
  obtain ⟨a, cap0, rfl, -⟩ := hv
  go_enter Try.func39, Try.ntmps39
  go_wp2
  go_loopw [3, 5, 8] (fun v _ i wr => ∃ k : Nat, k ≤ l.length ∧ i = .int .i64 k ∧ Own 9 StrV (Iv w.heap.size wr.heap.size) wr v ((l.take k).map formatImage) ∧ Below w.heap.size w wr) (fun _ _ i _ => l.length - (intOf i).toNat)
  case atStart => exact ⟨0, Nat.zero_le _, rfl, Own.nil _ _ _ _, Below.refl _ _⟩
  case round =>
    obtain ⟨k, hk, rfl, hown, hbel⟩ := hrel
    obtain ⟨wo, rfl⟩ : ∃ wo : World, wo = wr := ⟨_, rfl⟩
    have hBs := hbel.size
    by_cases hlt : k < l.length
    · obtain ⟨x, hx⟩ : ∃ x, l[k]? = some x := ⟨_, List.getElem?_eq_getElem hlt⟩
      obtain ⟨b, off, cpr, he, hb, -⟩ := Hv.out.inv_ne (by omega)
      obtain ⟨rfl, -⟩ : a = some ⟨b, off, none⟩ ∧ cap0 = cpr := by simpa using he
      obtain ⟨u, hck, hu⟩ := Sl.at Hv.out hx
      have hu : Grid w u x := hu
      have Hu := Lib.hid (hu.keep hbel)
      rw [← hbel.cell (p := ⟨b, off + k, none⟩) hb] at hck
      have Hst := Lib.hid (map_take_G formatImage hx)
      have hkl : ((l.take k).map formatImage).length < 1099511627776 := by simp; omega
      obtain ⟨p1, p2, p3, rfl⟩ := hown.shape
      have Hown := Lib.hid hown
      clear hx hown he hu
      go_wp2_with (fail)
      refine (FormatImage_i _ x _ Hu.out).mono ?_
      rintro e w1 ⟨rfl, hb1⟩
      have hs1 : wo.heap.size ≤ w1.heap.size := hb1.size
      have hsz : (formatImage x).size ≤ 9223372036854775807 := by have := formatImage_size x; omega
      go_wp2_with (first | (at_builtin; (refine wpList_appR rfl _ _ 51 rfl rStrV 9 Try.underlying51 infoStr rfl (by decide) w.heap.size wo.heap.size hBs hs1 rfl rfl (by exact Own.keep rStrV Hown.out hb1 (Nat.le_refl _)) (by exact ⟨rfl, hsz⟩) hkl ?_); intro v2 w2 hown2 hbel2 _) | fail)
      have hb2 := (hbel.trans (hb1.mono hBs)).trans hbel2
      have Hown2 := Lib.hid hown2
      clear hown2
      go_wp2
      go_roundw
      case rel => exact ⟨k + 1, by omega, by go_num, by rw [Hst.out]; exact Hown2.out, hb2⟩
      case measure => simp [intOf]; omega
    · have hfin := hown
      rw [List.take_of_length_le (by omega)] at hfin
      obtain ⟨p1, p2, p3, rfl⟩ := hown.shape
      have Hfin := Lib.hid hfin
      clear hown hfin
      go_wp2
      go_ret
      exact ⟨_, rfl, Hfin.out, hbel⟩
set_option maxRecDepth 100000 in
set_option maxHeartbeats 800000 in
theorem ImageLines_s (v : Value) (l : List (List (List Int))) (w : World) (hv : Grids w v l) (hl : l.length ≤ 2097152) : Calls Try.prog 37 #[v] w (New 9 StrV w (imgLines l)) := by
  have Hv := Lib.hid hv
  obtain ⟨a, cap0, rfl, -⟩ := hv
  go_enter Try.func37, Try.ntmps37
  go_wp2
  go_loopw [3, 5, 9] (fun v _ i wr => ∃ k : Nat, k ≤ l.length ∧ i = .int .i64 k ∧ Own 9 StrV (Iv w.heap.size wr.heap.size) wr v ((l.take k).map formatImage) ∧ Below w.heap.size w wr) (fun _ _ i _ => l.length - (intOf i).toNat)
  case atStart => exact ⟨0, Nat.zero_le _, rfl, own_lit0 _ _ _ rStrV, Below.pureAlloc _ _⟩
  case round =>
    obtain ⟨k, hk, rfl, hown, hbel⟩ := hrel
    obtain ⟨wo, rfl⟩ : ∃ wo : World, wo = wr := ⟨_, rfl⟩
    have hBs := hbel.size
    by_cases hlt : k < l.length
    · obtain ⟨x, hx⟩ : ∃ x, l[k]? = some x := ⟨_, List.getElem?_eq_getElem hlt⟩
      obtain ⟨b, off, cpr, he, hb, -⟩ := Hv.out.inv_ne (by omega)
      obtain ⟨rfl, -⟩ : a = some ⟨b, off, none⟩ ∧ cap0 = cpr := by simpa using he
      obtain ⟨u, hck, hu⟩ := Sl.at Hv.out hx
      have hu : Grid w u x := hu
      have Hu := Lib.hid (hu.keep hbel)
      rw [← hbel.cell (p := ⟨b, off + k, none⟩) hb] at hck
      have Hst := Lib.hid (map_take_G formatImage hx)
      have hkl : ((l.take k).map formatImage).length < 1099511627776 := by simp; omega
      obtain ⟨p1, p2, p3, rfl⟩ := hown.shape
      have Hown := Lib.hid hown
      clear hx hown he hu
      go_wp2_with (fail)
      refine (FormatImage_s _ x _ Hu.out).mono ?_
      rintro e w1 ⟨rfl, hb1⟩
      have hs1 : wo.heap.size ≤ w1.heap.size := hb1.size
      have hsz : (formatImage x).size ≤ 9223372036854775807 := by have := formatImage_size x; omega
      go_wp2_with (first | (at_builtin; (refine wpList_appR rfl _ _ 51 rfl rStrV 9 Try.underlying51 infoStr rfl (by decide) w.heap.size wo.heap.size hBs hs1 rfl rfl (by exact Own.keep rStrV Hown.out hb1 (Nat.le_refl _)) (by exact ⟨rfl, hsz⟩) hkl ?_); intro v2 w2 hown2 hbel2 _) | fail)
      have hb2 := (hbel.trans (hb1.mono hBs)).trans hbel2
      have Hown2 := Lib.hid hown2
      clear hown2
      go_wp2
      go_roundw
      case rel => exact ⟨k + 1, by omega, by go_num, by rw [Hst.out]; exact Hown2.out, hb2⟩
      case measure => simp [intOf]; omega
    · have hfin := hown
      rw [List.take_of_length_le (by omega)] at hfin
      obtain ⟨p1, p2, p3, rfl⟩ := hown.shape
      have Hfin := Lib.hid hfin
      clear hown hfin
      go_wp2
      go_ret
      exact ⟨_, rfl, Hfin.out, hbel⟩
theorem gba_toList_inj {a b : ByteArray} (h : a.toList = b.toList) : a = b := ba_ext (by rw [ByteArray.toList_eq, ByteArray.toList_eq] at h; exact h)
theorem gba_neq {a b : ByteArray} (h : a ≠ b) : (a.toList == b.toList) = false := by rw [beq_eq_false_iff_ne]; exact fun e => h (gba_toList_inj e)
theorem eqStringS_c (v v2 : Value) (xs ys : List ByteArray) (w : World) (hv : Strs w v xs) (hv2 : Strs w v2 ys) : Calls Try.prog 40 #[v, v2] w fun e w' => e = .returned (.bool (decide (xs = ys))) ∧ Below w.heap.size w w' := by
  obtain ⟨a, cap, rfl, hcap, hle, -, hc⟩ := hv
  obtain ⟨a2, cap2, rfl, hcap2, hle2, -, hc2⟩ := hv2
  by_cases hl : xs.length = ys.length
  · have hl1 : xs.length ≤ ys.length := by omega
    have hl2 : ys.length ≤ xs.length := by omega
    have Hl := Lib.hid hl; clear hl
    go_enter Try.func40, Try.ntmps40
    go_wp2
    go_loopw [5] (fun i wr => ∃ k : Nat, k ≤ xs.length ∧ i = .int .i64 k ∧ xs.take k = ys.take k ∧ ∃ n, wr = w.drewN n) (fun i _ => xs.length - (intOf i).toNat)
    case atStart => exact ⟨0, Nat.zero_le _, rfl, rfl, 0, rfl⟩
    case round =>
      obtain ⟨k, hk, rfl, heq, n, rfl⟩ := hrel
      have Heq := Lib.hid heq; clear heq
      by_cases hlt : k < xs.length
      · obtain ⟨b, off, rfl, hb, hc'⟩ := hc (by omega)
        obtain ⟨x, hx⟩ : ∃ x, xs[k]? = some x := ⟨_, List.getElem?_eq_getElem hlt⟩
        obtain ⟨u, hck, rfl, -⟩ := hc' k x hx
        obtain ⟨b2, off2, rfl, hb2, hc2'⟩ := hc2 (by omega)
        obtain ⟨y, hy⟩ : ∃ y, ys[k]? = some y := ⟨_, List.getElem?_eq_getElem (by omega)⟩
        obtain ⟨u2, hck2, rfl, -⟩ := hc2' k y hy
        have Hx := Lib.hid hx
        have Hy := Lib.hid hy
        clear hx hc hc' hy hc2 hc2'
        by_cases hxy : x = y
        · subst hxy
          go_wp2
          go_quiet (fail)
          go_wp2
          go_roundw
          case rel => exact ⟨k + 1, by omega, by go_num, take_step_eq Heq.out Hx.out Hy.out, _, rfl⟩
          case measure => simp [intOf]; omega
        · have hne := gba_neq hxy
          have Hxy := Lib.hid hxy; clear hxy
          go_wp2
          go_quiet (fail)
          go_wp2
          go_ret
          exact ⟨retB (Eq.symm (by simp; intro h; have h1 := Hx.out; rw [h, Hy.out] at h1; exact Hxy.out (Option.some.inj h1).symm)), below_drewN (below_drewN (Below.refl _ _) _) _⟩
      · go_wp2
        go_ret
        exact ⟨retB (Eq.symm (by have h := Heq.out; have hl := Hl.out; rw [List.take_of_length_le (by omega), List.take_of_length_le (by omega)] at h; simp [h])), below_drewN (Below.refl _ _) _⟩
  · have hne : decide (xs = ys) = false := by simp; intro h; exact hl (by rw [h])
    rw [hne]; clear hne
    have hl' : ((xs.length : Int) == (ys.length : Int)) = false := by simp; omega
    go_enter Try.func40, Try.ntmps40
    go_wp2
    go_ret
    exact ⟨rfl, Below.refl _ _⟩
def mtext (k : Int) : ByteArray := ⟨#[109]⟩ ++ fmtInt k
theorem mbyte1 (w : World) (z : Int) : (convert 41 9 (.slice (some ⟨w.heap.size, 0, none⟩) 1 1)).run Try.prog (w.alloc (.cells #[.int .u8 z] 5)) = .ok (.string ⟨#[UInt8.ofNat z.toNat]⟩) (w.alloc (.cells #[.int .u8 z] 5)) :=
  run_byte1 w _ _ _ z Try.underlying41 Try.underlying5 Try.underlying9
theorem mb1_size (z : UInt8) : (⟨#[z]⟩ : ByteArray).size = 1 := rfl
theorem mtext_size {k : Int} (h0 : 1 ≤ k) (h1 : k ≤ 1099511627776) : (mtext k).size ≤ 21 := by
  have := fmt_size (n := k) ⟨by omega, by omega⟩
  unfold mtext; rw [ba_append_size, mb1_size]; omega
set_option maxRecDepth 100000 in
set_option maxHeartbeats 400000 in
theorem markText_c (n : Int) (h0 : 1 ≤ n) (hn2 : n ≤ 1099511627776) (w : World) : Calls Try.prog 76 #[.int .i64 n] w fun e w' => e = .returned (.string (mtext n)) ∧ Below w.heap.size w w' := by
  have hfs := fmt_size (n := n) ⟨by omega, by omega⟩
  go_enter Try.func76, Try.ntmps76
  go_wp2
  go_loopw [0, 3] (fun nv s wr => ∃ (m : Int) (t : ByteArray), nv = .int .i64 m ∧ s = .string t ∧ 0 ≤ m ∧ m ≤ 1099511627776 ∧ (0 < m → fmtInt n = fmtInt m ++ t) ∧ (m = 0 → fmtInt n = t) ∧ t.size ≤ 20 ∧ Below w.heap.size w wr) (fun nv _ _ => (intOf nv).toNat)
  case atStart => exact ⟨n, ByteArray.empty, rfl, rfl, by omega, hn2, fun _ => by apply ba_ext; simp, fun h => by omega, by simp, Below.refl _ _⟩
  case round =>
    obtain ⟨m, t, rfl, rfl, hm0, hm1, hf, hz0, hts, hbel⟩ := hrel
    obtain ⟨wo, rfl⟩ : ∃ wo : World, wo = wr := ⟨_, rfl⟩
    by_cases hmz : m = 0
    · have Hz := Lib.hid (show mtext n = ⟨#[109]⟩ ++ t from by unfold mtext; rw [hz0 hmz])
      subst hmz
      clear hf hz0
      go_wp2
      go_ret
      exact ⟨retS Hz.out.symm, hbel⟩
    have hmp : 0 < m := by omega
    have hf := hf hmp
    clear hz0
    have hts2 : t.size + (fmtInt m).size ≤ 20 := by rw [hf, ba_append_size] at hfs; omega
    have Hf := Lib.hid hf
    clear hf
    by_cases h9 : 9 < m
    · have hst := fmt_step h9
      have Hst := Lib.hid (show fmtInt n = fmtInt (m / 10) ++ (⟨#[UInt8.ofNat (48 + m % 10).toNat]⟩ ++ t) from by
        rw [Hf.out, hst]
        have e : 48 + (m % 10).toNat = (48 + m % 10).toNat := by omega
        rw [e]; apply ba_ext; simp [List.append_assoc])
      have hz := mb1_size (UInt8.ofNat (48 + m % 10).toNat)
      have hsz : (⟨#[UInt8.ofNat (48 + m % 10).toNat]⟩ ++ t : ByteArray).size ≤ 20 := by
        have h1 := congrArg ByteArray.size hst
        rw [ba_append_size, mb1_size] at h1
        rw [ba_append_size, mb1_size]; omega
      have hc := mbyte1 wo (48 + m % 10)
      clear hst
      go_wp2
      go_roundw
      case rel => exact ⟨m / 10, _, by go_num, rfl, by omega, by omega, fun _ => Hst.out, fun h => by omega, hsz, hbel.alloc hbel.size _⟩
      case measure => simp [intOf]; omega
    · have Hst := Lib.hid (show fmtInt n = ⟨#[UInt8.ofNat (48 + m % 10).toNat]⟩ ++ t from by
        rw [Hf.out, fmt_digit hm0 (by omega)]
        have e : 48 + m.toNat = (48 + m % 10).toNat := by omega
        rw [e])
      have hz := mb1_size (UInt8.ofNat (48 + m % 10).toNat)
      have hsz : (⟨#[UInt8.ofNat (48 + m % 10).toNat]⟩ ++ t : ByteArray).size ≤ 20 := by
        rw [← Hst.out]; exact hfs
      have hc := mbyte1 wo (48 + m % 10)
      go_wp2
      go_roundw
      case rel => exact ⟨m / 10, _, by go_num, rfl, by omega, by omega, fun h => by omega, fun _ => Hst.out, hsz, hbel.alloc hbel.size _⟩
      case measure => simp [intOf]; omega
/-- the marks of n texts -/
def smarks (k : Int) (n : Nat) : List ByteArray := (List.range n).map fun i : Nat => mtext (k + (i : Int))
theorem smarks_len (k : Int) (n : Nat) : (smarks k n).length = n := by simp [smarks]
theorem smarks_at {k : Int} {n j : Nat} (h : j < n) : (smarks k n)[j]? = some (mtext (k + (j : Int))) := by simp [smarks, h]
theorem smarks_set {xs : List ByteArray} {k : Int} {j : Nat} (h : j < xs.length) : (smarks k j ++ xs.drop j).set j (mtext (k + (j : Int))) = smarks k (j + 1) ++ xs.drop (j + 1) := by
  rw [List.set_append_right _ _ (by rw [smarks_len]; exact Nat.le_refl _), smarks_len, Nat.sub_self, List.drop_eq_getElem_cons h, List.set_cons_zero]
  simp [smarks, List.range_succ]
set_option maxRecDepth 100000 in
set_option maxHeartbeats 800000 in
theorem markStringS_c (v : Value) (xs : List ByteArray) (k : Int) (S : Bk) (w : World) (hv : Own 9 StrV S w v xs) (hS : ∀ b, S b → b < w.heap.size) (hk0 : 1 ≤ k) (hk1 : k ≤ 1048576) (hlen : xs.length ≤ 1048576) :
    Calls Try.prog 43 #[v, .int .i64 k] w fun e w' => e = .returned (.int .i64 (k + xs.length)) ∧ Own 9 StrV S w' v (smarks k xs.length) ∧ Only S w w' := by
  rcases hv.inv with ⟨rfl, rfl⟩ | ⟨g, cap, rfl, hg, hcap, hgs, -⟩
  · go_enter Try.func43, Try.ntmps43
    go_wp2
    refine wp_loop_rounds 1 ?_
    rw [rounds_succ]
    go_wp2
    go_ret
    exact ⟨retI (by simp), Own.nil _ _ _ _, Only.refl _ _⟩
  · go_enter Try.func43, Try.ntmps43
    go_wp2
    have Hv : Own 9 StrV S w (.slice (some ⟨g, 0, none⟩) xs.length cap) (smarks k 0 ++ xs.drop 0) := hv
    clear hv
    go_loopw [1, 5] (fun n i wr => ∃ j : Nat, j ≤ xs.length ∧ i = .int .i64 j ∧ n = .int .i64 (k + j) ∧ Own 9 StrV S wr (.slice (some ⟨g, 0, none⟩) xs.length cap) (smarks k j ++ xs.drop j) ∧ Only S w wr) (fun _ i _ => xs.length - (intOf i).toNat)
    case atStart => exact ⟨0, Nat.zero_le _, rfl, by simp, Hv, Only.refl _ _⟩
    case round =>
      clear Hv
      obtain ⟨j, hj, rfl, rfl, hown, honly⟩ := hrel
      obtain ⟨wo, rfl⟩ : ∃ wo : World, wo = wr := ⟨_, rfl⟩
      by_cases hlt : j < xs.length
      · have hl : (smarks k j ++ xs.drop j).length = xs.length := by simp [smarks_len]; omega
        have hsz := mtext_size (k := k + (j : Int)) (by omega) (by omega)
        have hows := honly.size
        have hSo : ∀ b, S b → b < wo.heap.size := fun b hb => Nat.lt_of_lt_of_le (hS b hb) hows
        have Hown := Lib.hid hown
        have Hl := Lib.hid hl
        have HSo := Lib.hid hSo
        have Honly := Lib.hid honly
        clear hown hl hSo honly
        go_wp2_with (fail)
        refine (markText_c (k + (j : Int)) (by omega) (by omega) _).mono ?_
        rintro e w1 ⟨rfl, hb1⟩
        have hown1 := (rOwn rStrV).same (sameOn_below hb1 HSo.out) Hown.out
        obtain ⟨-, -, -, hf, T, u, hcell, ⟨hu, hus⟩, -, hset, -⟩ := hown1.focus rStrV (List.getElem?_eq_getElem (by rw [Hl.out]; exact hlt))
        subst hu
        have hnew := hset (.string (mtext (k + (j : Int)))) (mtext (k + (j : Int))) (fun _ => False) S ⟨rfl, by omega⟩ (fun _ x => x.elim) (fun _ x => x.elim) (fun _ x => x)
        rw [smarks_set hlt] at hnew
        have Hnew := Lib.hid hnew
        have honly1 := (Honly.out.trans' (Only.of_pure hb1 _))
        obtain ⟨yy, hyy⟩ : ∃ yy, w1.cell? ⟨g, j, none⟩ = some (.string yy) := ⟨_, hcell⟩
        clear hown1 hset hnew hcell hus
        have HH := Lib.hid hb1
        have H1 := Lib.hid honly1
        clear hb1 honly1
        go_wp2
        go_roundw
        case rel => exact ⟨j + 1, by omega, by go_num, by congr 1; omega, Hnew.out, H1.out.setCell (.inl hg) _⟩
        case measure => simp [intOf]; omega
      · have Hown := Lib.hid hown; clear hown
        go_wp2
        go_ret
        obtain rfl : j = xs.length := by omega
        exact ⟨rfl, by have h := Hown.out; simpa using h, honly⟩
set_option maxRecDepth 100000 in
set_option maxHeartbeats 4000000 in
theorem heldStringS_c (v : Value) (n : Nat) (k : Int) (w : World) (hv : Strs w v (smarks k n)) (hk0 : 1 ≤ k) (hk1 : k ≤ 1048576) (hlen : n ≤ 1048576) :
    Calls Try.prog 44 #[v, .int .i64 k] w fun e w' => e = .returned (.int .i64 (k + n)) ∧ Below w.heap.size w w' := by
  have Hv := Lib.hid hv
  obtain ⟨a, cap, rfl, hcap, hle, -, -⟩ := hv
  rw [smarks_len] at hcap hle ⊢
  go_enter Try.func44, Try.ntmps44
  go_wp2
  go_loopw [1, 5] (fun m i wr => ∃ j : Nat, j ≤ n ∧ i = .int .i64 j ∧ m = .int .i64 (k + j) ∧ Below w.heap.size w wr) (fun _ i _ => n - (intOf i).toNat)
  case atStart => exact ⟨0, Nat.zero_le _, rfl, by simp, Below.refl _ _⟩
  case round =>
    obtain ⟨j, hj, rfl, rfl, hbel⟩ := hrel
    obtain ⟨wo, rfl⟩ : ∃ wo : World, wo = wr := ⟨_, rfl⟩
    by_cases hlt : j < n
    · obtain ⟨b, off, cpr, he, hb, -⟩ := Hv.out.inv_ne (by rw [smarks_len]; omega)
      obtain ⟨rfl, -⟩ : a = some ⟨b, off, none⟩ ∧ cap = cpr := by simpa using he
      obtain ⟨u, hck, rfl, -⟩ := Sl.at Hv.out (smarks_at (k := k) hlt)
      rw [← hbel.cell (p := ⟨b, off + j, none⟩) hb] at hck
      have hbs : b < wo.heap.size := Nat.lt_of_lt_of_le hb hbel.size
      have hsz := mtext_size (k := k + (j : Int)) (by omega) (by omega)
      have hC := markText_c (k + (j : Int)) (by omega) (by omega)
      have HC := Lib.hid hC
      have hbd := hbel
      clear he hC
      go_wp2
      go_region_with (go_at_call 76; refine (HC.out _).mono ?_; rintro e w2 ⟨rfl, hb2⟩; have hck2 := (hb2.cell (p := ⟨b, off + j, none⟩) hbs).trans hck)
      all_goals go_wp2
      all_goals go_roundw
      all_goals first
        | (case measure => simp [intOf]; omega)
        | (case rel => exact ⟨j + 1, by omega, by go_num, by congr 1; omega, (hbel.drew).trans_pure hb2 (Nat.le_refl _)⟩)
    · go_wp2
      go_ret
      exact ⟨retI (by omega), hbel⟩
end Go.Proofs.Ytadbiefcpjcinaa

/- Contracts and plain laws that the claims on sessions use. No condition of their own. -/
import Derived.Test.YthmocomfjgmjoaaGreatDoorQ27
import Derived.Test.YthmocomfjgmjoaaGreatDoorKRe
import Derived.Test.YthmocomfjgmjoaaGreatDoorQ07
import Derived.Test.YthmocomfjgmjoaaGreatDoorQ24
namespace Go.Proofs.YthmocomfjgmjoaaGreatDoor
open Go.RowKit
theorem ryser_len {xs ys : List Int} {r c : Nat} : ∀ (n : Nat) {g h : List (List Int)}, Sums xs ys r c g → Sums xs ys r c h → distG r c g h ≤ n → ∃ p, IsPath r c g p h ∧ p.length ≤ n := by
  intro n
  induction n with
  | zero => intro g h hg hh hd; rw [distG_zero hg.1 hh.1 hd]; exact ⟨[], rfl, Nat.le_refl _⟩
  | succ n ih =>
    intro g h hg hh hd
    by_cases hne : g = h
    · rw [hne]; exact ⟨[], rfl, Nat.zero_le _⟩
    rcases ryser_step hg hh hne with ⟨s, hs, hlt⟩ | ⟨s, hs, hlt⟩
    · obtain ⟨p, h1, h2⟩ := ih (applyS_sums hg hs) hh (by omega)
      exact ⟨s :: p, ⟨hs, h1⟩, by rw [List.length_cons]; omega⟩
    · obtain ⟨p, h1, h2⟩ := ih hg (applyS_sums hh hs) (by omega)
      exact ⟨p ++ [s], isPath_snoc.2 ⟨_, h1, applyS_ok hh.1 hs, applyS_twice hh.1 hs⟩, by rw [List.length_append, List.length_singleton]; omega⟩
theorem sle_count {p q : List Sw} (h : sle p q) : p.length ≤ q.length := by
  rcases h with rfl | h | ⟨h, -⟩
  · exact Nat.le_refl _
  · omega
  · omega
theorem plText_le (m t : List (List Int)) : (plText m t).size ≤ 4000 := by
  unfold plText
  split
  · rename_i hx
    have h := Classical.choose_spec hx
    obtain ⟨T, hT⟩ : ∃ T, T = Classical.choose hx := ⟨_, rfl⟩
    rw [← hT] at h ⊢
    cases hp : pathOk m t
    · rw [h.2 hp]; decide
    · obtain ⟨W, hW, rfl⟩ := h.1 hp
      obtain ⟨-, r, c, ha, hr4, hc4⟩ := pathOk_args hp
      rw [ha.l1, ha.l2] at hW
      have s1 := sums_of_image ha.hs ha.hr1 ha.hr5 ha.hc1 ha.hc5
      have s2 := sums_of_image ha.hs2 ha.hr1 ha.hr5 ha.hc1 ha.hc5
      rw [← ha.e1, ← ha.e2] at s2
      have hd := (distG_bd c m t r).2
      have h16 : r * c ≤ 4 * 4 := Nat.mul_le_mul hr4 hc4
      obtain ⟨q, hq, hql⟩ := ryser_len 16 s1 s2 (by omega)
      have hl := sle_count (hW.2 q hq)
      have := pathTxt_size (W := W) (by omega) (path_small ha.hr5 ha.hc5 hW.1) W.length
      omega
  · decide
theorem orNoneB_le (t : ByteArray) : (orNoneB t).size ≤ t.size + 4 := by
  unfold orNoneB
  split
  · have : noneB.size = 4 := rfl
    omega
  · omega
theorem imageLineG_le (m : List (List Int)) : (imageLineG m).size ≤ 4000 := by
  unfold imageLineG
  split
  · rename_i h
    obtain ⟨r, c, h1, h2, h3, h4, hs⟩ := imageOk_shape h
    rw [hs.1, hs.head h1]
    obtain ⟨a, b, d, e, -⟩ := imageLine_sz hs h1 h2 h3 h4
    have e1 : (⟨#[32, 114, 111, 119, 115, 32]⟩ : ByteArray).size = 6 := rfl
    have e2 : (⟨#[32, 99, 111, 108, 115, 32]⟩ : ByteArray).size = 6 := rfl
    have e3 : (⟨#[32, 117, 110, 105, 113, 117, 101]⟩ : ByteArray).size = 7 := rfl
    have e4 : (⟨#[32, 102, 114, 101, 101, 32]⟩ : ByteArray).size = 6 := rfl
    unfold imageLineOf
    split <;> simp only [ba_append_size, e1, e2, e3, e4] <;> omega
  · decide
theorem fixedText_le (xs ys : List Int) : (fixedText xs ys).size ≤ 30 := Nat.le_trans (joinB_size _ _) (fixedOf_trits xs ys).bulk
theorem lines_le {L : List (List (List Int))} (h : L.length ≤ 1073741824) : (joinB ⟨#[59]⟩ (imgLines L)).size ≤ 1099511627776 := Nat.le_trans (joinB_size _ _) (lines_bulk h)
theorem greedyR_64 (m : List (List Int)) : Ints64 ((greedyR m).getD []) := by
  unfold greedyR
  split
  · rename_i h
    obtain ⟨r, c, h1, h2, h3, h4, hs⟩ := imageOk_shape h
    rw [hs.1, hs.head h1]
    intro x hx
    have := (greedyOf_spec hs h1 h2 h3 h4).1.2 x hx
    have h5 : r * c ≤ 5 * 5 := Nat.mul_le_mul h2 h4
    exact I64.small (by omega) (by omega)
  · intro x hx; simp at hx
theorem rowSums_any (m : List (List Int)) : Ints64 (rowSumsOf m) := by
  cases hm : imageOk m
  · intro x hx; unfold rowSumsOf at hx; rw [hm] at hx; simp at hx
  · obtain ⟨r, c, h1, h2, h3, h4, hs⟩ := imageOk_shape hm
    exact (rowSums_64 hs h1 h2 h3 h4).1
theorem repText_le (xs ys : List Int) : (repText xs ys).size ≤ 1000 := by
  unfold repText
  split
  · have e2 : (⟨#[32]⟩ : ByteArray).size = 1 := rfl
    have a := sumsText_size (rowSums_any (closeImg xs ys (closest xs ys)))
    have b := sumsText_size (rowSums_any (trOf (closeImg xs ys (closest xs ys))))
    have l1 := rowSumsOf_len (closeImg xs ys (closest xs ys))
    have l2 := rowSumsOf_len (trOf (closeImg xs ys (closest xs ys)))
    show (sumsText (rowSumsOf (closeImg xs ys (closest xs ys))) ++ _ ++ sumsText (rowSumsOf (trOf (closeImg xs ys (closest xs ys))))).size ≤ 1000
    simp only [ba_append_size, e2]
    omega
  · decide
theorem lnAll_upto {m : List (List Int)} {r c : Nat} {dx dy : Int} (hm : Shape r c m) (hd : 0 ≤ dx ∧ dx ≤ 3 ∧ -3 ≤ dy ∧ dy ≤ 3) (hc5 : c ≤ 5) (k : Nat) : ∀ (l : List Int) (b : Int), k ≤ r → l.length = (nLn r c dx dy).toNat → Upto b l → Upto (b + 5 * k) (lnAll m r c dx dy k l) := by
  induction k with
  | zero => intro l b _ _ h; simpa [lnAll] using h
  | succ k ih =>
    intro l b hk hl h
    rw [lnAll]
    obtain ⟨h3, h4⟩ := lnRow_upto hm hd (y := r - (k + 1)) (by omega) c l b (Nat.le_refl _) hl h
    have h5 := ih _ (b + c) (by omega) (by rw [h4]; exact hl) h3
    intro v hv
    have := h5 v hv
    omega
theorem lineSums_64 (m : List (List Int)) (dx dy : Int) : Ints64 (lineSums m dx dy) := by
  unfold lineSums
  split
  · rename_i h
    obtain ⟨r, c, h1, h2, h3, h4, hs⟩ := imageOk_shape h.1
    rw [hs.1, hs.head h1]
    have hu := lnAll_upto hs (dirOkB_bd h.2) h4 r (List.replicate (nLn r c dx dy).toNat 0) 0 (Nat.le_refl _) (List.length_replicate ..) (fun v hv => by rw [List.eq_of_mem_replicate hv]; omega)
    intro x hx
    have := hu x hx
    exact I64.small (by omega) (by omega)
  · intro x hx; cases hx
theorem puzzleLineOf_le (R C : List (List Int)) : (puzzleLineOf R C).size ≤ 2000 := by
  unfold puzzleLineOf
  have hl := solutions_len R C
  have key : (puzzleHead (solutions R C)).size ≤ 1100 := by
    have e1 : (⟨#[32, 115, 111, 108, 117, 116, 105, 111, 110, 115]⟩ : ByteArray).size = 10 := rfl
    have e2 : (⟨#[32]⟩ : ByteArray).size = 1 := rfl
    unfold puzzleHead
    split
    · have := fmt_size (n := 0) (by omega)
      simp only [ba_append_size, e1]; omega
    · rename_i x l e
      rw [e] at hl
      have h1 := fmt_size (n := ((x :: l).length : Nat)) (by omega)
      have h2 := formatImage_le x
      simp only [ba_append_size, e1, e2]; omega
  have e3 : (⟨#[32, 108, 111, 103, 105, 99, 97, 108]⟩ : ByteArray).size = 8 := rfl
  split
  · split
    · rw [ba_append_size, e3]; omega
    · omega
  · decide
theorem sumsLineOf_le {xs ys : List Int} (h1 : Ints64 xs) (h2 : Ints64 ys) (l1 : xs.length ≤ 1048576) (l2 : ys.length ≤ 1048576) : (sumsLineOf xs ys).size ≤ 134217728 := by
  have a := sumsText_size h1
  have b := sumsText_size h2
  have w1 := worst_le xs ys
  have i1 := imgsOf_len xs ys
  have f1 := fmt_size (n := ((imgsOf xs ys).length : Nat)) (by omega)
  have f2 := fmt_size (n := worst xs ys) (by omega)
  have e1 : (⟨#[114, 111, 119, 115, 32]⟩ : ByteArray).size = 5 := rfl
  have e2 : (⟨#[32, 99, 111, 108, 115, 32]⟩ : ByteArray).size = 6 := rfl
  have e3 : (⟨#[32, 105, 109, 97, 103, 101, 115, 32]⟩ : ByteArray).size = 8 := rfl
  have e4 : (⟨#[32, 110, 111, 110, 101, 58, 32, 99, 111, 108, 117, 109, 110, 115, 32]⟩ : ByteArray).size = 15 := rfl
  have e5 : (⟨#[32, 110, 111, 110, 101]⟩ : ByteArray).size = 5 := rfl
  unfold sumsLineOf sumsHead
  split
  · split <;> simp only [ba_append_size, e1, e2, e3, e4] <;> omega
  · simp only [ba_append_size, e1, e2, e5]; omega
structure SOk (k : Con) : Prop where
  sz : ConSz k
  ra : Ints64 k.rows
  rb : Ints64 k.cols
def Fits (m : List (List Int)) : Prop := m.length ≤ 1048576 ∧ ∀ r ∈ m, r.length ≤ 1048576
theorem fits_shape {r c : Nat} {m : List (List Int)} (h : Shape r c m) (hr : r ≤ 1048576) (hc : c ≤ 1048576) : Fits m := ⟨by rw [h.1]; exact hr, fun x hx => by rw [(h.2 x hx).1]; exact hc⟩
theorem putR_ok {k : Con} {o : Option (List (List Int))} (h : SOk k) (ho : ∀ m, o = some m → Fits m) : SOk (putR k o).1 ∧ (putR k o).2.size ≤ 1000 := by
  cases o with
  | none => exact ⟨h, by show noneB.size ≤ 1000; decide⟩
  | some m => exact ⟨⟨⟨(ho m rfl).1, (ho m rfl).2, h.sz.a, h.sz.b⟩, h.ra, h.rb⟩, formatImage_le m⟩
theorem fits_put {m m' : List (List Int)} {y x v : Int} (h : putG m y x v = some m') : Fits m' := by
  unfold putG at h
  split at h
  · rename_i hh
    injection h with h
    subst h
    obtain ⟨h1, h2⟩ := hh
    have hok : imageOk m = true := by unfold hasG at h1; rw [Bool.and_eq_true] at h1; exact h1.1
    obtain ⟨r, c, r1, r5, c1, c5, hs⟩ := imageOk_shape hok
    rw [hasG_shape hs r1 hok, inB_iff] at h1
    have hv := inR_iff.1 h2
    exact fits_shape (setC_shape hs (y := y.toNat) (x := x.toNat) (by omega) hv.1 hv.2) (by omega) (by omega)
  · cases h
theorem fits_app {m m' : List (List Int)} {a b c d : Int} (h : appG m a b c d = some m') : Fits m' := by
  unfold appG at h
  split at h
  · rename_i hh
    injection h with h
    subst h
    have hok : imageOk m = true := by unfold swG at hh; rw [Bool.and_eq_true] at hh; exact hh.1
    obtain ⟨r, c', r1, r5, c1, c5, hs⟩ := imageOk_shape hok
    rw [swG_shape hs r1 hok] at hh
    obtain ⟨s, -, -, -, -, h5, h6⟩ := swOkB_sw hh
    rw [h6]
    exact fits_shape (applyS_shape hs h5) (by omega) (by omega)
  · cases h
theorem bld_rows : ∀ (rows w : List Int), ∀ r ∈ bld rows w, r.length = w.length
  | [], _, r, h => by simp [bld] at h
  | n :: rows, w, r, h => by
    rw [bld] at h
    rcases List.mem_cons.1 h with rfl | h
    · unfold fillRow; rw [mkr_len]
    · rw [bld_rows rows _ r h, lower_len]
theorem fits_buildS {k : Con} (hk : ConSz k) {m : List (List Int)} (h : buildG k.rows k.cols = some m) : Fits m := by
  unfold buildG at h
  split at h
  · injection h with h
    subst h
    exact ⟨by rw [bld_len]; exact hk.a, fun r hr => by rw [bld_rows _ _ r hr]; exact hk.b⟩
  · cases h
theorem fits_leastS {k : Con} (hk : ConSz k) {m : List (List Int)} (h : leastG k.rows k.cols = some m) : Fits m := by
  unfold leastG at h
  exact fits_shape (imgsOf_shape m (List.mem_of_getElem? h)).1 hk.a hk.b
theorem sumsVal_64 (t : ByteArray) : Ints64 (sumsVal t) := by
  unfold sumsVal
  split
  · intro x hx; cases hx
  · split
    · rename_i h
      unfold sumsParts
      intro x hx
      obtain ⟨p, hp, rfl⟩ := List.mem_map.1 hx
      exact (parse_text (List.all_eq_true.1 h p hp)).2
    · intro x hx; cases hx
theorem sumsVal_len2 (t : ByteArray) : (sumsVal t).length ≤ t.size + 1 := by
  unfold sumsVal sumsParts
  split
  · simp
  · split
    · have := splitB_len t 44; rw [List.length_map]; omega
    · simp
theorem bulkB_mem {sep t : ByteArray} : ∀ {xs : List ByteArray}, t ∈ xs → t.size + sep.size ≤ bulkB sep xs
  | x :: r, h => by
    rcases List.mem_cons.1 h with rfl | h
    · simp only [bulkB]; omega
    · have := bulkB_mem (sep := sep) h
      simp only [bulkB]; omega
theorem joinB_part {b : UInt8} {wd t : ByteArray} {al : List ByteArray} (h : t ∈ al) : t.size + 1 ≤ (joinB ⟨#[b]⟩ (wd :: al)).size := by
  have h1 := bulkB_mem (sep := ⟨#[b]⟩) h
  have e : (⟨#[b]⟩ : ByteArray).size = 1 := rfl
  have h2 := bulkB_tail ⟨#[b]⟩ al
  have h3 : (joinB ⟨#[b]⟩ (wd :: al)).size = (wd.data.toList ++ Lib.joinTail [b] (al.map (·.data.toList))).length := by
    unfold joinB
    simp only [List.map_cons]
    rw [Lib.join_cons]
    rfl
  rw [h3, List.length_append]
  have h4 : (Lib.joinTail [b] (al.map (·.data.toList))).length = bulkB ⟨#[b]⟩ al := h2
  omega
theorem sums_lens {s : ByteArray} {wd : ByteArray} {al : List ByteArray} (hsp : splitB s 32 = wd :: al) (hsz : s.size ≤ 1048576) {t : ByteArray} (ht : t ∈ al) : (sumsVal t).length ≤ 1048576 := by
  have h1 := splitB_join s 32
  rw [hsp] at h1
  have h2 := joinB_part (b := 32) (wd := wd) ht
  rw [h1] at h2
  have := sumsVal_len2 t
  omega
theorem imageR_ok {k : Con} (h : SOk k) (w : ByteArray) {t : ByteArray} (ht : parseOk t = true) : SOk (imageR k w (parsed t)).1 ∧ (imageR k w (parsed t)).2.size ≤ 4000 := by
  have hok : imageOk (parsed t) = true := by unfold parseOk at ht; rw [Bool.and_eq_true] at ht; exact ht.2
  obtain ⟨r, c, h1, h2, h3, h4, hs⟩ := imageOk_shape hok
  unfold imageR
  split
  · obtain ⟨a, b⟩ := rowSums_64 hs h1 h2 h3 h4
    have l1 := rowSumsOf_len (parsed t)
    have l2 := colSumsOf_len (parsed t)
    have hf := fits_shape hs (by omega) (by omega)
    exact ⟨⟨⟨hf.1, hf.2, by show (rowSumsOf _).length ≤ _; omega, by show (colSumsOf _).length ≤ _; omega⟩, a, b⟩, by show okB.size ≤ 4000; decide⟩
  · split
    · exact ⟨h, plText_le _ _⟩
    · split
      · exact ⟨h, by show noneB.size ≤ 4000; decide⟩
      · rename_i x hx
        refine ⟨h, ?_⟩
        obtain ⟨a, b, d⟩ := nearSz x (near_64 hx)
        show (formatImage x ++ ⟨#[32]⟩ ++ fmtInt _ : ByteArray).size ≤ 4000
        rw [ba_append_size]; omega
theorem numR_ok {k : Con} (h : SOk k) (w : ByteArray) (n : List Int) : SOk (numR k w n).1 ∧ (numR k w n).2.size ≤ 1000 := by
  unfold numR
  split
  · exact putR_ok h fun m hm => fits_app hm
  · split
    · exact putR_ok h fun m hm => fits_put hm
    · split
      · refine ⟨h, ?_⟩
        show (if _ then noneB else sumsText _ : ByteArray).size ≤ 1000
        split
        · decide
        · have a := sumsText_size (lineSums_64 k.img (n.getD 0 0) (n.getD 1 0))
          have b := lineSums_len k.img (n.getD 0 0) (n.getD 1 0)
          omega
      · exact ⟨h, by show unkB.size ≤ 1000; decide⟩
theorem wordR_ok {k : Con} (h : SOk k) (s : ByteArray) : SOk (wordR k s).1 ∧ (wordR k s).2.size ≤ 2199023255552 := by
  have a1 := imageLineG_le k.img
  have a2 := orNoneB_le (imageLineG k.img)
  have b1 := lines_le (imgsOf_len k.rows k.cols)
  have b2 := orNoneB_le (joinB ⟨#[59]⟩ (imgLines (imgsOf k.rows k.cols)))
  have c1 := lines_le (convG_big k.rows k.cols)
  have c2 := orNoneB_le (joinB ⟨#[59]⟩ (imgLines (convG k.rows k.cols)))
  have d1 := fixedText_le k.rows k.cols
  have d2 := orNoneB_le (fixedText k.rows k.cols)
  have e1 := sumsText_size (greedyR_64 k.img)
  have e2 := greedyR_len k.img
  have f1 : (if (closest k.rows k.cols).isSome = true then sumsText (repRows k.rows k.cols) ++ ⟨#[32]⟩ ++ sumsText (repCols k.rows k.cols) else noneB).size ≤ 1000 := repText_le k.rows k.cols
  have g1 := puzzleLineOf_le (pzRows k.img) (pzCols k.img)
  have g2 := orNoneB_le (puzzleLineOf (pzRows k.img) (pzCols k.img))
  obtain ⟨rt, hrt⟩ : ∃ rt, (if (closest k.rows k.cols).isSome = true then sumsText (repRows k.rows k.cols) ++ ⟨#[32]⟩ ++ sumsText (repCols k.rows k.cols) else noneB) = rt := ⟨_, rfl⟩
  unfold wordR
  rw [hrt] at f1 ⊢
  repeat' split
  all_goals first
    | exact ⟨h, by show (orNoneB _).size ≤ _; omega⟩
    | exact ⟨h, by show (sumsText _).size ≤ _; omega⟩
    | (have := putR_ok h fun m hm => fits_buildS h.sz hm; exact ⟨this.1, by omega⟩)
    | (have := putR_ok h fun m hm => fits_leastS h.sz hm; exact ⟨this.1, by omega⟩)
    | exact ⟨h, Nat.le_trans f1 (by decide)⟩
    | exact ⟨h, by show unkB.size ≤ _; decide⟩
theorem rl_ok {k : Con} (h : SOk k) {s : ByteArray} (hs : s.size ≤ 1048576) : SOk (rlOf k s).1 ∧ (rlOf k s).2.size ≤ 2199023255552 := by
  unfold rlOf
  split
  · exact ⟨h, by show (⟨#[]⟩ : ByteArray).size ≤ _; decide⟩
  · split
    · exact wordR_ok h s
    · unfold restR
      obtain ⟨wd, al, hsp⟩ : ∃ wd al, splitB s 32 = wd :: al := by
        have hp := splitB_pos s 32
        cases e : splitB s 32 with
        | nil => rw [e] at hp; simp at hp
        | cons wd al => exact ⟨wd, al, rfl⟩
      rw [hsp]
      show SOk (if _ then _ else _ : Con × ByteArray).1 ∧ (if _ then _ else _ : Con × ByteArray).2.size ≤ _
      split
      · split
        · rename_i ht
          obtain ⟨a, b⟩ := imageR_ok h ((wd :: al).getD 0 ⟨#[]⟩) ht
          exact ⟨a, by omega⟩
        · exact ⟨h, by show unkB.size ≤ _; decide⟩
      · split
        · rename_i hh
          match al, hh.1, hsp with
          | [ta, tb], _, hsp =>
            show SOk (sumsR k ta tb).1 ∧ (sumsR k ta tb).2.size ≤ _
            unfold sumsR
            split
            · have l1 := sums_lens hsp hs (t := ta) (by simp)
              have l2 := sums_lens hsp hs (t := tb) (by simp)
              have := sumsLineOf_le (sumsVal_64 ta) (sumsVal_64 tb) l1 l2
              exact ⟨⟨⟨h.sz.m, h.sz.r, l1, l2⟩, sumsVal_64 ta, sumsVal_64 tb⟩, by show (sumsLineOf _ _).size ≤ _; omega⟩
            · exact ⟨h, by show unkB.size ≤ _; decide⟩
        · split
          · obtain ⟨a, b⟩ := numR_ok h ((wd :: al).getD 0 ⟨#[]⟩) (((wd :: al).drop 1).map parseVal)
            exact ⟨a, by omega⟩
          · exact ⟨h, by show unkB.size ≤ _; decide⟩
noncomputable def sessStep (st : Con × ByteArray) (s : ByteArray) : Con × ByteArray :=
  ((rlOf st.1 s).1, if (rlOf st.1 s).2 = ByteArray.empty then st.2 else st.2 ++ (rlOf st.1 s).2 ++ ⟨#[10]⟩)
def con0 : Con := ⟨[[0]], [0], [0]⟩
noncomputable def sessTo (l : List ByteArray) : Con × ByteArray := l.foldl sessStep (con0, ByteArray.empty)
theorem sessTo_succ {l : List ByteArray} {j : Nat} {s : ByteArray} (h : l[j]? = some s) : sessTo (l.take (j + 1)) = sessStep (sessTo (l.take j)) s := by
  unfold sessTo
  rw [List.take_add_one, h, List.foldl_append]; rfl
theorem con0_ok : SOk con0 := ⟨⟨by decide, by decide, by decide, by decide⟩, fun x hx => by simp [con0] at hx; subst hx; exact ⟨by decide, by decide⟩, fun x hx => by simp [con0] at hx; subst hx; exact ⟨by decide, by decide⟩⟩
noncomputable def sessOf (text : ByteArray) : ByteArray × Int := if (linesB text).length ≤ 40 then ((sessTo (linesB text)).2, (linesB text).length) else (ByteArray.empty, -1)
theorem rlOf_said {k : Con} {s : ByteArray} (h : isSaid s = true) : rlOf k s = (k, ⟨#[]⟩) := by unfold rlOf; rw [if_pos h]
theorem split_one {s x : ByteArray} (h : splitB s 32 = [x]) : x = s := by
  have := splitB_join s 32
  rw [h, joinB_one] at this
  exact this
theorem rlOf_one {k : Con} {s : ByteArray} (h : isSaid s = false) (hsp : splitB s 32 = [s]) : rlOf k s = wordR k s := by
  unfold rlOf
  rw [if_neg (by rw [h]; simp), if_pos (by rw [hsp]; rfl)]
theorem rlOf_rest {k : Con} {s wd : ByteArray} {al : List ByteArray} (h : isSaid s = false) (hsp : splitB s 32 = wd :: al) (hne : al ≠ []) : rlOf k s = restR k wd al := by
  have h1 : al.length ≠ 0 := fun e => hne (List.length_eq_zero_iff.1 e)
  unfold rlOf
  rw [if_neg (by rw [h]; simp), if_neg (by rw [hsp, List.length_cons]; omega), hsp]
  rfl
theorem img_ne {w : ByteArray} (h1 : w ≠ wImage) (h2 : w ≠ wPath) (h3 : w ≠ wNear) : isImgW w = false := by simp [isImgW, h1, h2, h3]
theorem restR_img {k : Con} {w t : ByteArray} (h : isImgW w = true) : restR k w [t] = if parseOk t = true then imageR k w (parsed t) else (k, unkB) := by
  unfold restR
  rw [if_pos ⟨rfl, h⟩]
  rfl
theorem restR_sums {k : Con} {a b : ByteArray} : restR k wSums [a, b] = sumsR k a b := by
  unfold restR
  rw [if_neg (by simp), if_pos ⟨rfl, rfl⟩]
  rfl
theorem restR_num {k : Con} {w : ByteArray} {al : List ByteArray} (h1 : al.length ≠ 1 ∨ isImgW w = false) (h2 : al.length ≠ 2 ∨ w ≠ wSums) : restR k w al = if al.all parseYes = true then numR k w (al.map parseVal) else (k, unkB) := by
  unfold restR
  rw [if_neg (by rintro ⟨a, b⟩; rcases h1 with h | h; exact h a; rw [h] at b; cases b), if_neg (by rintro ⟨a, b⟩; rcases h2 with h | h; exact h a; exact h b)]
theorem restR_unk {k : Con} {w : ByteArray} {al : List ByteArray} (h1 : al.length ≠ 1 ∨ isImgW w = false) (h2 : al.length ≠ 2 ∨ w ≠ wSums) (h3 : ∀ n : List Int, n.length = al.length → numR k w n = (k, unkB)) : restR k w al = (k, unkB) := by
  rw [restR_num h1 h2]
  split
  · exact h3 _ (by rw [List.length_map])
  · rfl
theorem numR_unk {k : Con} {w : ByteArray} {n : List Int} (h1 : w ≠ wSwitch ∨ n.length ≠ 4) (h2 : w ≠ wFlip ∨ n.length ≠ 2) (h3 : w ≠ wLine ∨ n.length ≠ 2) : numR k w n = (k, unkB) := by
  unfold numR
  rw [if_neg (by rintro ⟨a, b⟩; rcases h1 with h | h; exact h a; exact h b), if_neg (by rintro ⟨a, b⟩; rcases h2 with h | h; exact h a; exact h b), if_neg (by rintro ⟨a, b⟩; rcases h3 with h | h; exact h a; exact h b)]
theorem not_all {al : List ByteArray} (h : (numsOf al).length ≠ al.length) : al.all parseYes = false := by
  cases e : al.all parseYes
  · rfl
  · exact absurd (by rw [numsOf_all e, List.length_map]) h
theorem NotNine.of {s wd : ByteArray} {al : List ByteArray} (h : splitB s 32 = wd :: al) (hne : al ≠ []) : NotNine s :=
  ⟨ba_lit_ne rfl (two_words h hne wShow_split), ba_lit_ne rfl (two_words h hne wBuild_split), ba_lit_ne rfl (two_words h hne wLeast_split), ba_lit_ne rfl (two_words h hne wAll_split), ba_lit_ne rfl (two_words h hne wFixed_split), ba_lit_ne rfl (two_words h hne wConvex_split), ba_lit_ne rfl (two_words h hne wReveal_split), ba_lit_ne rfl (two_words h hne wRepair_split), ba_lit_ne rfl (two_words h hne wPuzzle_split)⟩
theorem nat_ne {n m : Nat} (h : n ≠ m) : (((n : Nat) : Int) == (m : Int)) = false := by simpa using (by omega : (n : Int) ≠ m)
theorem ne_wImage_wSums : wImage ≠ wSums := by decide +kernel
theorem ne_wImage_wSwitch : wImage ≠ wSwitch := by decide +kernel
theorem ne_wImage_wFlip : wImage ≠ wFlip := by decide +kernel
theorem ne_wImage_wLine : wImage ≠ wLine := by decide +kernel
theorem ne_wSums_wImage : wSums ≠ wImage := by decide +kernel
theorem ne_wSums_wSwitch : wSums ≠ wSwitch := by decide +kernel
theorem ne_wSums_wFlip : wSums ≠ wFlip := by decide +kernel
theorem ne_wSums_wPath : wSums ≠ wPath := by decide +kernel
theorem ne_wSums_wNear : wSums ≠ wNear := by decide +kernel
theorem ne_wSums_wLine : wSums ≠ wLine := by decide +kernel
theorem ne_wSwitch_wImage : wSwitch ≠ wImage := by decide +kernel
theorem ne_wSwitch_wSums : wSwitch ≠ wSums := by decide +kernel
theorem ne_wSwitch_wFlip : wSwitch ≠ wFlip := by decide +kernel
theorem ne_wSwitch_wPath : wSwitch ≠ wPath := by decide +kernel
theorem ne_wSwitch_wNear : wSwitch ≠ wNear := by decide +kernel
theorem ne_wSwitch_wLine : wSwitch ≠ wLine := by decide +kernel
theorem ne_wFlip_wImage : wFlip ≠ wImage := by decide +kernel
theorem ne_wFlip_wSums : wFlip ≠ wSums := by decide +kernel
theorem ne_wFlip_wSwitch : wFlip ≠ wSwitch := by decide +kernel
theorem ne_wFlip_wPath : wFlip ≠ wPath := by decide +kernel
theorem ne_wFlip_wNear : wFlip ≠ wNear := by decide +kernel
theorem ne_wFlip_wLine : wFlip ≠ wLine := by decide +kernel
theorem ne_wPath_wImage : wPath ≠ wImage := by decide +kernel
theorem ne_wPath_wSums : wPath ≠ wSums := by decide +kernel
theorem ne_wPath_wSwitch : wPath ≠ wSwitch := by decide +kernel
theorem ne_wPath_wFlip : wPath ≠ wFlip := by decide +kernel
theorem ne_wPath_wLine : wPath ≠ wLine := by decide +kernel
theorem ne_wNear_wImage : wNear ≠ wImage := by decide +kernel
theorem ne_wNear_wSums : wNear ≠ wSums := by decide +kernel
theorem ne_wNear_wSwitch : wNear ≠ wSwitch := by decide +kernel
theorem ne_wNear_wFlip : wNear ≠ wFlip := by decide +kernel
theorem ne_wNear_wPath : wNear ≠ wPath := by decide +kernel
theorem ne_wNear_wLine : wNear ≠ wLine := by decide +kernel
theorem ne_wLine_wImage : wLine ≠ wImage := by decide +kernel
theorem ne_wLine_wSums : wLine ≠ wSums := by decide +kernel
theorem ne_wLine_wSwitch : wLine ≠ wSwitch := by decide +kernel
theorem ne_wLine_wFlip : wLine ≠ wFlip := by decide +kernel
theorem ne_wLine_wPath : wLine ≠ wPath := by decide +kernel
theorem ne_wLine_wNear : wLine ≠ wNear := by decide +kernel
theorem step_empty (st : Con × ByteArray) : sessStep st ⟨#[]⟩ = st := by
  obtain ⟨k, t⟩ := st
  have h : rlOf k ⟨#[]⟩ = (k, ⟨#[]⟩) := by unfold rlOf; rw [if_pos (by rfl)]
  unfold sessStep
  dsimp only
  rw [h]
  have e : (⟨#[]⟩ : ByteArray) = ByteArray.empty := rfl
  dsimp only
  rw [if_pos e]
theorem step_mono (st : Con × ByteArray) (s : ByteArray) : st.2.size ≤ (sessStep st s).2.size := by
  unfold sessStep
  dsimp only
  split
  · omega
  · simp only [ba_append_size]; omega
theorem fold_mono : ∀ (l : List ByteArray) (st : Con × ByteArray), st.2.size ≤ (l.foldl sessStep st).2.size
  | [], _ => Nat.le_refl _
  | s :: l, st => Nat.le_trans (step_mono st s) (fold_mono l _)
theorem sess_pos {s : ByteArray} {l : List ByteArray} (h : (rlOf con0 s).2 ≠ ByteArray.empty) : 0 < (sessTo (s :: l)).2.size := by
  have h1 : 0 < (sessStep (con0, ByteArray.empty) s).2.size := by
    have e : (⟨#[10]⟩ : ByteArray).size = 1 := rfl
    unfold sessStep
    dsimp only
    rw [if_neg h]
    simp only [ba_append_size, e]; omega
  have := fold_mono l (sessStep (con0, ByteArray.empty) s)
  unfold sessTo
  rw [List.foldl_cons]
  omega
theorem sess_drop (l : List ByteArray) : (sessTo (l ++ [⟨#[]⟩])) = sessTo l := by
  unfold sessTo
  rw [List.foldl_append]
  exact step_empty _
theorem last_split {α : Type} (d : α) {l : List α} (h : l ≠ []) : l = l.take (l.length - 1) ++ [l.getD (l.length - 1) d] := by
  have hl : 0 < l.length := List.length_pos_iff.2 h
  have h1 := List.take_succ_eq_append_getElem (l := l) (i := l.length - 1) (by omega)
  rw [show l.length - 1 + 1 = l.length from by omega, List.take_length] at h1
  rw [List.getD_eq_getElem?_getD, List.getElem?_eq_getElem (by omega)]
  exact h1
theorem lines_join {ls : List ByteArray} (h1 : ls ≠ []) (h : ∀ p ∈ ls, (10 : UInt8) ∉ p.data.toList) :
    (linesB (joinB ⟨#[10]⟩ ls) = ls) ∨ (ls = linesB (joinB ⟨#[10]⟩ ls) ++ [⟨#[]⟩]) := by
  have hs := split_join h1 h
  unfold linesB
  rw [hs]
  split
  · rename_i he
    right
    have := last_split (⟨#[]⟩ : ByteArray) h1
    rw [he] at this
    exact this
  · exact .inl rfl
theorem sessOf_join {ls : List ByteArray} (h1 : ls ≠ []) (hl : ls.length ≤ 40) (h : ∀ p ∈ ls, (10 : UInt8) ∉ p.data.toList) :
    (sessOf (joinB ⟨#[10]⟩ ls)).1 = (sessTo ls).2 ∧ (ls.length : Int) - 1 ≤ (sessOf (joinB ⟨#[10]⟩ ls)).2 ∧ (sessOf (joinB ⟨#[10]⟩ ls)).2 ≤ ls.length := by
  rcases lines_join h1 h with e | e
  · unfold sessOf
    rw [e, if_pos hl]
    exact ⟨rfl, by dsimp only; omega, Int.le_refl _⟩
  · obtain ⟨q, hq⟩ : ∃ q, linesB (joinB ⟨#[10]⟩ ls) = q := ⟨_, rfl⟩
    rw [hq] at e
    have hql : ls.length = q.length + 1 := by rw [e]; simp
    unfold sessOf
    rw [hq, if_pos (by omega)]
    refine ⟨?_, by dsimp only; omega, by dsimp only; omega⟩
    rw [e, sess_drop]
structure SesSt (Bx : Nat) (w : World) (a b c : Value) (k : Con) : Prop where
  blk : Blk w Bx #[a, b, c] 34
  own : OwnC (fun x => x ≠ Bx ∧ x < w.heap.size) w a b c k
theorem SesSt.keep {Bx : Nat} {w w' : World} {a b c : Value} {k : Con} (h : SesSt Bx w a b c k) (y : Below w.heap.size w w') : SesSt Bx w' a b c k :=
  ⟨h.blk.keep y, (h.own.same (sameOn_below y fun _ hx => hx.2)).mono fun _ hx => ⟨hx.1, Nat.lt_of_lt_of_le hx.2 y.size⟩⟩
theorem SesSt.next {Bx : Nat} {w w3 : World} {a b c a' b' c' : Value} {k k' : Con} (h : SesSt Bx w a b c k) (y : Below w.heap.size w w3) (o : OwnC (Iv w.heap.size w3.heap.size) w3 a' b' c' k') :
    SesSt Bx ((((w3.setCell ⟨Bx, 0, none⟩ a').setCell ⟨Bx, 1, none⟩ b').setCell ⟨Bx, 2, none⟩ c').alloc (.cells #[a', b', c'] 34)) a' b' c' k' := by
  have hl := h.blk.lt
  refine SesSt.keep ⟨(h.blk.keep y).set3, ?_⟩ (Below.pureAlloc _ _)
  rw [size_set3]
  exact (o.same (fun x hx => set3_same _ Bx a' b' c' x (by have := hx.1; omega))).mono fun x hx => ⟨by have := hx.1; omega, hx.2⟩
theorem SesSt.below {Bx B : Nat} {w0 w w3 : World} {a b c a' b' c' : Value} {k : Con} (h : SesSt Bx w a b c k) (hB : B ≤ Bx) (h0 : Below B w0 w) (y : Below w.heap.size w w3) :
    Below B w0 ((((w3.setCell ⟨Bx, 0, none⟩ a').setCell ⟨Bx, 1, none⟩ b').setCell ⟨Bx, 2, none⟩ c').alloc (.cells #[a', b', c'] 34)) := by
  have hl := h.blk.lt
  have s3 := y.size
  exact (Below.set3 (h0.trans (y.mono (by omega))) hB _ _ _).alloc (by rw [size_set3]; omega) _
structure SesSz (O T : ByteArray) : Prop where
  o : O.size ≤ 1125899906842624
  t : T.size ≤ 2199023255552
  tn : (T ++ ⟨#[10]⟩ : ByteArray).size ≤ 2199023255553
  otn : (O ++ (T ++ ⟨#[10]⟩) : ByteArray).size ≤ 4503599627370496
  ot : (O ++ T : ByteArray).size ≤ 4503599627370496
  otn2 : (O ++ T ++ ⟨#[10]⟩ : ByteArray).size ≤ 4503599627370496
theorem sesSz {O T : ByteArray} (o : O.size ≤ 1125899906842624) (t : T.size ≤ 2199023255552) : SesSz O T := by
  have e : (⟨#[10]⟩ : ByteArray).size = 1 := rfl
  refine ⟨o, t, ?_, ?_, ?_, ?_⟩ <;> simp only [ba_append_size, e] <;> omega
theorem sess_none {l : List ByteArray} {j : Nat} {s : ByteArray} (h : l[j]? = some s) {k k' : Con} {O T : ByteArray} (h1 : sessTo (l.take j) = (k, O)) (h2 : rlOf k s = (k', T)) (hT : T = ByteArray.empty) : sessTo (l.take (j + 1)) = (k', O) := by
  rw [sessTo_succ h, h1]
  unfold sessStep
  dsimp only
  rw [h2]
  dsimp only
  rw [if_pos hT]
theorem sess_some {l : List ByteArray} {j : Nat} {s : ByteArray} (h : l[j]? = some s) {k k' : Con} {O T : ByteArray} (h1 : sessTo (l.take j) = (k, O)) (h2 : rlOf k s = (k', T)) (hT : T ≠ ByteArray.empty) : sessTo (l.take (j + 1)) = (k', O ++ T ++ ⟨#[10]⟩) := by
  rw [sessTo_succ h, h1]
  unfold sessStep
  dsimp only
  rw [h2]
  dsimp only
  rw [if_neg hT]
structure SesAt (ls : List ByteArray) (Bx : Nat) (w : World) (a b c : Value) (j : Nat) (O : ByteArray) (k : Con) : Prop where
  st : SesSt Bx w a b c k
  at_ : sessTo (ls.take j) = (k, O)
  sk : SOk k
  so : O.size ≤ 4398046511104 * j
theorem SesAt.start {w1 w2 : World} {a b c : Value} (ls : List ByteArray) (o : OwnC (Iv w1.heap.size w2.heap.size) w2 a b c con0) : SesAt ls w2.heap.size (w2.alloc (.cells #[a, b, c] 34)) a b c 0 ByteArray.empty con0 :=
  ⟨⟨Blk.new w2 _ _, (o.same (sameOn_below (Below.pureAlloc w2 _) fun _ hx => hx.2)).mono fun x hx => ⟨by have := hx.2; omega, by have := hx.2; simp; omega⟩⟩, rfl, con0_ok, by simp⟩
end Go.Proofs.YthmocomfjgmjoaaGreatDoor

/- RunLine of the program says what rlOf says, at every line. -/
import Derived.Test.YthmocomfjgmjoaaGreatDoorQ28
import Derived.Test.YthmocomfjgmjoaaGreatDoorKRb
import Derived.Test.YthmocomfjgmjoaaGreatDoorKRc
import Derived.Test.YthmocomfjgmjoaaGreatDoorKRcb
import Derived.Test.YthmocomfjgmjoaaGreatDoorKRd
import Derived.Test.YthmocomfjgmjoaaGreatDoorKRdb
import Derived.Test.YthmocomfjgmjoaaGreatDoorKY1
import Derived.Test.YthmocomfjgmjoaaGreatDoorKY2
import Derived.Test.YthmocomfjgmjoaaGreatDoorKY3
import Derived.Test.YthmocomfjgmjoaaGreatDoorKY4
import Derived.Test.YthmocomfjgmjoaaGreatDoorKY5
import Derived.Test.YthmocomfjgmjoaaGreatDoorKY6
import Derived.Test.YthmocomfjgmjoaaGreatDoorKY7
import Derived.Test.YthmocomfjgmjoaaGreatDoorKY8
import Derived.Test.YthmocomfjgmjoaaGreatDoorKY9
namespace Go.Proofs.YthmocomfjgmjoaaGreatDoor
open Go.RowKit
theorem RunLine_one (a b c : Value) (k : Con) (s : ByteArray) (w : World) (h : ConRd w a b c k) (hs : ConSz k) (ht : TabE w) (hsz : s.size ≤ 1048576) (hsaid : isSaid s = false) (hsp : splitB s 32 = [s]) : Calls Tryz.prog 13 #[.agg #[a, b, c], .string s] w (ConRes w (rlOf k s)) := by
  rw [rlOf_one hsaid hsp]
  by_cases hwShow : s = wShow
  · subst hwShow; exact RunLine_show a b c k w h hs ht
  by_cases hwBuild : s = wBuild
  · subst hwBuild; exact RunLine_build a b c k w h hs ht
  by_cases hwLeast : s = wLeast
  · subst hwLeast; exact RunLine_least a b c k w h hs ht
  by_cases hwAll : s = wAll
  · subst hwAll; exact RunLine_all a b c k w h hs ht
  by_cases hwFixed : s = wFixed
  · subst hwFixed; exact RunLine_fixed a b c k w h hs ht
  by_cases hwConvex : s = wConvex
  · subst hwConvex; exact RunLine_convex a b c k w h hs ht
  by_cases hwReveal : s = wReveal
  · subst hwReveal; exact RunLine_reveal a b c k w h hs ht
  by_cases hwRepair : s = wRepair
  · subst hwRepair; exact RunLine_repair a b c k w h hs ht
  by_cases hwPuzzle : s = wPuzzle
  · subst hwPuzzle; exact RunLine_puzzle a b c k w h hs ht
  have hw : wordR k s = (k, unkB) := by
    unfold wordR
    rw [if_neg hwShow, if_neg hwBuild, if_neg hwLeast, if_neg hwAll, if_neg hwFixed, if_neg hwConvex, if_neg hwReveal, if_neg hwRepair, if_neg hwPuzzle]
  rw [hw]
  by_cases hwImage : s = wImage
  · subst hwImage; exact RunLine_uImage a b c k w h hs ht
  by_cases hwSums : s = wSums
  · subst hwSums; exact RunLine_uSums a b c k w h hs ht
  by_cases hwSwitch : s = wSwitch
  · subst hwSwitch; exact RunLine_uSwitch a b c k w h hs ht
  by_cases hwFlip : s = wFlip
  · subst hwFlip; exact RunLine_uFlip a b c k w h hs ht
  by_cases hwPath : s = wPath
  · subst hwPath; exact RunLine_uPath a b c k w h hs ht
  by_cases hwNear : s = wNear
  · subst hwNear; exact RunLine_uNear a b c k w h hs ht
  by_cases hwLine : s = wLine
  · subst hwLine; exact RunLine_uLine a b c k w h hs ht
  exact RunLine_u a b c k s w h hs ht hsz hsaid hsp ⟨ba_lit_ne rfl hwShow, ba_lit_ne rfl hwBuild, ba_lit_ne rfl hwLeast, ba_lit_ne rfl hwAll, ba_lit_ne rfl hwFixed, ba_lit_ne rfl hwConvex, ba_lit_ne rfl hwReveal, ba_lit_ne rfl hwRepair, ba_lit_ne rfl hwPuzzle⟩ (ba_lit_ne rfl hwImage) (ba_lit_ne rfl hwSums) (ba_lit_ne rfl hwSwitch) (ba_lit_ne rfl hwFlip) (ba_lit_ne rfl hwPath) (ba_lit_ne rfl hwNear) (ba_lit_ne rfl hwLine)
theorem RunLine_wImage (a b c : Value) (k : Con) (s : ByteArray) (al : List ByteArray) (w : World) (h : ConRd w a b c k) (hs : ConSz k) (ht : TabE w) (hsz : s.size ≤ 1048576) (hsaid : isSaid s = false) (hsp : splitB s 32 = wImage :: al) (hne : al ≠ []) : Calls Tryz.prog 13 #[.agg #[a, b, c], .string s] w (ConRes w (restR k wImage al)) := by
  have hpos : 1 ≤ al.length := by have h1 : al.length ≠ 0 := fun e => hne (List.length_eq_zero_iff.1 e); omega
  by_cases h1 : al.length = 1
  · obtain ⟨t, rfl⟩ := List.length_eq_one_iff.1 h1
    rw [restR_img (by decide +kernel : isImgW wImage = true)]
    cases hok : parseOk t
    · rw [if_neg (by simp)]
      exact RunLine_ui1 a b c k s [t] t w h hs ht hsz hsaid hsp h1 (NotNine.of hsp hne) rfl hok
    · rw [if_pos rfl, show imageR k wImage (parsed t) = (⟨parsed t, rowSumsOf (parsed t), colSumsOf (parsed t)⟩, okB) from by unfold imageR; rw [if_pos rfl]]
      exact RunLine_image a b c k s [t] t w h hs ht hsz hsaid hsp h1 rfl hok
  · rw [restR_unk (.inl h1) (.inr ne_wImage_wSums) (fun n hn => numR_unk (.inl ne_wImage_wSwitch) (.inl ne_wImage_wFlip) (.inl ne_wImage_wLine))]
    exact RunLine_uin a b c k s al al.length w h hs ht hsz hsaid hsp rfl (NotNine.of hsp hne) hpos (nat_ne h1)
theorem RunLine_wPath (a b c : Value) (k : Con) (s : ByteArray) (al : List ByteArray) (w : World) (h : ConRd w a b c k) (hs : ConSz k) (ht : TabE w) (hsz : s.size ≤ 1048576) (hsaid : isSaid s = false) (hsp : splitB s 32 = wPath :: al) (hne : al ≠ []) : Calls Tryz.prog 13 #[.agg #[a, b, c], .string s] w (ConRes w (restR k wPath al)) := by
  have hpos : 1 ≤ al.length := by have h1 : al.length ≠ 0 := fun e => hne (List.length_eq_zero_iff.1 e); omega
  by_cases h1 : al.length = 1
  · obtain ⟨t, rfl⟩ := List.length_eq_one_iff.1 h1
    rw [restR_img (by decide +kernel : isImgW wPath = true)]
    cases hok : parseOk t
    · rw [if_neg (by simp)]
      exact RunLine_up1 a b c k s [t] t w h hs ht hsz hsaid hsp h1 (NotNine.of hsp hne) rfl hok
    · rw [if_pos rfl, show imageR k wPath (parsed t) = (k, plText k.img (parsed t)) from by unfold imageR; rw [if_neg ne_wPath_wImage, if_pos rfl]]
      exact RunLine_path a b c k s [t] t w h hs ht hsz hsaid hsp h1 rfl hok
  · rw [restR_unk (.inl h1) (.inr ne_wPath_wSums) (fun n hn => numR_unk (.inl ne_wPath_wSwitch) (.inl ne_wPath_wFlip) (.inl ne_wPath_wLine))]
    exact RunLine_upn a b c k s al al.length w h hs ht hsz hsaid hsp rfl (NotNine.of hsp hne) hpos (nat_ne h1)
theorem RunLine_wNear (a b c : Value) (k : Con) (s : ByteArray) (al : List ByteArray) (w : World) (h : ConRd w a b c k) (hs : ConSz k) (ht : TabE w) (hsz : s.size ≤ 1048576) (hsaid : isSaid s = false) (hsp : splitB s 32 = wNear :: al) (hne : al ≠ []) : Calls Tryz.prog 13 #[.agg #[a, b, c], .string s] w (ConRes w (restR k wNear al)) := by
  have hpos : 1 ≤ al.length := by have h1 : al.length ≠ 0 := fun e => hne (List.length_eq_zero_iff.1 e); omega
  by_cases h1 : al.length = 1
  · obtain ⟨t, rfl⟩ := List.length_eq_one_iff.1 h1
    rw [restR_img (by decide +kernel : isImgW wNear = true)]
    cases hok : parseOk t
    · rw [if_neg (by simp)]
      exact RunLine_un1 a b c k s [t] t w h hs ht hsz hsaid hsp h1 (NotNine.of hsp hne) rfl hok
    · rw [if_pos rfl, show imageR k wNear (parsed t) = nearR k (parsed t) from by unfold imageR; rw [if_neg ne_wNear_wImage, if_neg ne_wNear_wPath]; rfl]
      exact RunLine_near a b c k s [t] t w h hs ht hsz hsaid hsp h1 rfl hok
  · rw [restR_unk (.inl h1) (.inr ne_wNear_wSums) (fun n hn => numR_unk (.inl ne_wNear_wSwitch) (.inl ne_wNear_wFlip) (.inl ne_wNear_wLine))]
    exact RunLine_unn a b c k s al al.length w h hs ht hsz hsaid hsp rfl (NotNine.of hsp hne) hpos (nat_ne h1)
theorem RunLine_wSwitch (a b c : Value) (k : Con) (s : ByteArray) (al : List ByteArray) (w : World) (h : ConRd w a b c k) (hs : ConSz k) (ht : TabE w) (hsz : s.size ≤ 1048576) (hsaid : isSaid s = false) (hsp : splitB s 32 = wSwitch :: al) (hne : al ≠ []) : Calls Tryz.prog 13 #[.agg #[a, b, c], .string s] w (ConRes w (restR k wSwitch al)) := by
  have hpos : 1 ≤ al.length := by have h1 : al.length ≠ 0 := fun e => hne (List.length_eq_zero_iff.1 e); omega
  by_cases h1 : al.length = 1
  · obtain ⟨t, rfl⟩ := List.length_eq_one_iff.1 h1
    rw [restR_unk (.inr (img_ne ne_wSwitch_wImage ne_wSwitch_wPath ne_wSwitch_wNear)) (.inr ne_wSwitch_wSums) (fun n hn => numR_unk (.inr (by rw [hn, h1]; decide)) (.inl ne_wSwitch_wFlip) (.inl ne_wSwitch_wLine))]
    exact RunLine_uw1 a b c k s [t] t w h hs ht hsz hsaid hsp h1 (NotNine.of hsp hne) rfl
  by_cases h4 : al.length = 4
  · rw [restR_num (.inr (img_ne ne_wSwitch_wImage ne_wSwitch_wPath ne_wSwitch_wNear)) (.inr ne_wSwitch_wSums)]
    by_cases hb : (numsOf al).length = 4
    · have hall := numsOf_full (hb.trans h4.symm)
      rw [if_pos hall]
      obtain ⟨n, hn⟩ : ∃ n, al.map parseVal = n := ⟨_, rfl⟩
      have hnum := numsOf_all hall
      rw [hn] at hnum ⊢
      have hl : n.length = 4 := by rw [← hn, List.length_map, h4]
      match n, hl with
      | [n0, n1, n2, n3], _ =>
        rw [show numR k wSwitch [n0, n1, n2, n3] = putR k (appG k.img n0 n1 n2 n3) from by unfold numR; rw [if_pos ⟨rfl, rfl⟩]; rfl]
        exact RunLine_switch a b c k s al n0 n1 n2 n3 w h hs ht hsz hsaid hsp h4 hnum
    · rw [if_neg (by rw [not_all (by rw [h4]; exact hb)]; simp)]
      exact RunLine_uw4 a b c k s al w h hs ht hsz hsaid hsp h4 (NotNine.of hsp hne) hb
  · rw [restR_unk (.inl h1) (.inr ne_wSwitch_wSums) (fun n hn => numR_unk (.inr (by rw [hn]; exact h4)) (.inl ne_wSwitch_wFlip) (.inl ne_wSwitch_wLine))]
    exact RunLine_uwn a b c k s al al.length w h hs ht hsz hsaid hsp rfl (NotNine.of hsp hne) hpos (nat_ne h1) (nat_ne h4)
theorem RunLine_wFlip (a b c : Value) (k : Con) (s : ByteArray) (al : List ByteArray) (w : World) (h : ConRd w a b c k) (hs : ConSz k) (ht : TabE w) (hsz : s.size ≤ 1048576) (hsaid : isSaid s = false) (hsp : splitB s 32 = wFlip :: al) (hne : al ≠ []) : Calls Tryz.prog 13 #[.agg #[a, b, c], .string s] w (ConRes w (restR k wFlip al)) := by
  have hpos : 1 ≤ al.length := by have h1 : al.length ≠ 0 := fun e => hne (List.length_eq_zero_iff.1 e); omega
  by_cases h1 : al.length = 1
  · obtain ⟨t, rfl⟩ := List.length_eq_one_iff.1 h1
    rw [restR_unk (.inr (img_ne ne_wFlip_wImage ne_wFlip_wPath ne_wFlip_wNear)) (.inr ne_wFlip_wSums) (fun n hn => numR_unk (.inl ne_wFlip_wSwitch) (.inr (by rw [hn, h1]; decide)) (.inl ne_wFlip_wLine))]
    exact RunLine_uf1 a b c k s [t] t w h hs ht hsz hsaid hsp h1 (NotNine.of hsp hne) rfl
  by_cases h2 : al.length = 2
  · rw [restR_num (.inr (img_ne ne_wFlip_wImage ne_wFlip_wPath ne_wFlip_wNear)) (.inr ne_wFlip_wSums)]
    by_cases hb : (numsOf al).length = 2
    · have hall := numsOf_full (hb.trans h2.symm)
      rw [if_pos hall]
      obtain ⟨n, hn⟩ : ∃ n, al.map parseVal = n := ⟨_, rfl⟩
      have hnum := numsOf_all hall
      rw [hn] at hnum ⊢
      have hl : n.length = 2 := by rw [← hn, List.length_map, h2]
      match n, hl with
      | [n0, n1], _ =>
        rw [show numR k wFlip [n0, n1] = putR k (flipG k.img n0 n1) from by unfold numR; rw [if_neg (fun e => ne_wFlip_wSwitch e.1), if_pos ⟨rfl, rfl⟩]; rfl]
        exact RunLine_flip a b c k s al n0 n1 w h hs ht hsz hsaid hsp h2 hnum
    · rw [if_neg (by rw [not_all (by rw [h2]; exact hb)]; simp)]
      exact RunLine_uf2 a b c k s al w h hs ht hsz hsaid hsp h2 (NotNine.of hsp hne) hb
  · rw [restR_unk (.inl h1) (.inr ne_wFlip_wSums) (fun n hn => numR_unk (.inl ne_wFlip_wSwitch) (.inr (by rw [hn]; exact h2)) (.inl ne_wFlip_wLine))]
    exact RunLine_ufn a b c k s al al.length w h hs ht hsz hsaid hsp rfl (NotNine.of hsp hne) hpos (nat_ne h1) (nat_ne h2)
theorem RunLine_wLine (a b c : Value) (k : Con) (s : ByteArray) (al : List ByteArray) (w : World) (h : ConRd w a b c k) (hs : ConSz k) (ht : TabE w) (hsz : s.size ≤ 1048576) (hsaid : isSaid s = false) (hsp : splitB s 32 = wLine :: al) (hne : al ≠ []) : Calls Tryz.prog 13 #[.agg #[a, b, c], .string s] w (ConRes w (restR k wLine al)) := by
  have hpos : 1 ≤ al.length := by have h1 : al.length ≠ 0 := fun e => hne (List.length_eq_zero_iff.1 e); omega
  by_cases h1 : al.length = 1
  · obtain ⟨t, rfl⟩ := List.length_eq_one_iff.1 h1
    rw [restR_unk (.inr (img_ne ne_wLine_wImage ne_wLine_wPath ne_wLine_wNear)) (.inr ne_wLine_wSums) (fun n hn => numR_unk (.inl ne_wLine_wSwitch) (.inl ne_wLine_wFlip) (.inr (by rw [hn, h1]; decide)))]
    exact RunLine_ul1 a b c k s [t] t w h hs ht hsz hsaid hsp h1 (NotNine.of hsp hne) rfl
  by_cases h2 : al.length = 2
  · rw [restR_num (.inr (img_ne ne_wLine_wImage ne_wLine_wPath ne_wLine_wNear)) (.inr ne_wLine_wSums)]
    by_cases hb : (numsOf al).length = 2
    · have hall := numsOf_full (hb.trans h2.symm)
      rw [if_pos hall]
      obtain ⟨n, hn⟩ : ∃ n, al.map parseVal = n := ⟨_, rfl⟩
      have hnum := numsOf_all hall
      rw [hn] at hnum ⊢
      have hl : n.length = 2 := by rw [← hn, List.length_map, h2]
      match n, hl with
      | [n0, n1], _ =>
        rw [show numR k wLine [n0, n1] = (k, if lineSums k.img n0 n1 = [] then noneB else sumsText (lineSums k.img n0 n1)) from by unfold numR; rw [if_neg (fun e => ne_wLine_wSwitch e.1), if_neg (fun e => ne_wLine_wFlip e.1), if_pos ⟨rfl, rfl⟩]; rfl]
        by_cases hls : lineSums k.img n0 n1 = []
        · rw [if_pos hls]
          exact RunLine_line0 a b c k s al n0 n1 w h hs ht hsz hsaid hsp h2 hnum hls
        · rw [if_neg hls]
          exact RunLine_line1 a b c k s al n0 n1 w h hs ht hsz hsaid hsp h2 hnum hls
    · rw [if_neg (by rw [not_all (by rw [h2]; exact hb)]; simp)]
      exact RunLine_ul2 a b c k s al w h hs ht hsz hsaid hsp h2 (NotNine.of hsp hne) hb
  · rw [restR_unk (.inl h1) (.inr ne_wLine_wSums) (fun n hn => numR_unk (.inl ne_wLine_wSwitch) (.inl ne_wLine_wFlip) (.inr (by rw [hn]; exact h2)))]
    exact RunLine_uln a b c k s al al.length w h hs ht hsz hsaid hsp rfl (NotNine.of hsp hne) hpos (nat_ne h1) (nat_ne h2)
theorem RunLine_wSums (a b c : Value) (k : Con) (s : ByteArray) (al : List ByteArray) (w : World) (h : ConRd w a b c k) (hs : ConSz k) (ht : TabE w) (hsz : s.size ≤ 1048576) (hsaid : isSaid s = false) (hsp : splitB s 32 = wSums :: al) (hne : al ≠ []) : Calls Tryz.prog 13 #[.agg #[a, b, c], .string s] w (ConRes w (restR k wSums al)) := by
  have hpos : 1 ≤ al.length := by have h1 : al.length ≠ 0 := fun e => hne (List.length_eq_zero_iff.1 e); omega
  by_cases h1 : al.length = 1
  · obtain ⟨t, rfl⟩ := List.length_eq_one_iff.1 h1
    rw [restR_unk (.inr (img_ne ne_wSums_wImage ne_wSums_wPath ne_wSums_wNear)) (.inl (by rw [h1]; decide)) (fun n hn => numR_unk (.inl ne_wSums_wSwitch) (.inl ne_wSums_wFlip) (.inl ne_wSums_wLine))]
    exact RunLine_us1 a b c k s [t] t w h hs ht hsz hsaid hsp h1 (NotNine.of hsp hne) rfl
  by_cases h2 : al.length = 2
  · match al, h2, hsp, hne with
    | [ta, tb], h2, hsp, hne =>
      rw [restR_sums]
      unfold sumsR
      cases ha : sumsYes ta
      · rw [if_neg (by simp)]
        exact RunLine_us2 a b c k s [ta, tb] ta tb w h hs ht hsz hsaid hsp h2 rfl rfl (NotNine.of hsp hne) ha
      · cases hb : sumsYes tb
        · rw [if_neg (by simp)]
          exact RunLine_us3 a b c k s [ta, tb] ta tb w h hs ht hsz hsaid hsp h2 rfl rfl (NotNine.of hsp hne) ha hb
        · rw [if_pos ⟨rfl, rfl⟩]
          exact RunLine_sums a b c k s [ta, tb] ta tb w h hs ht hsz hsaid hsp h2 rfl rfl ha hb (sums_lens hsp hsz (by simp)) (sums_lens hsp hsz (by simp))
  · rw [restR_unk (.inr (img_ne ne_wSums_wImage ne_wSums_wPath ne_wSums_wNear)) (.inl h2) (fun n hn => numR_unk (.inl ne_wSums_wSwitch) (.inl ne_wSums_wFlip) (.inl ne_wSums_wLine))]
    exact RunLine_usn a b c k s al al.length w h hs ht hsz hsaid hsp rfl (NotNine.of hsp hne) hpos (nat_ne h1) (nat_ne h2)
theorem RunLine_i (a b c : Value) (k : Con) (s : ByteArray) (w : World) (h : ConRd w a b c k) (hs : ConSz k) (ht : TabE w) (hsz : s.size ≤ 1048576) : Calls Tryz.prog 13 #[.agg #[a, b, c], .string s] w (ConRes w (rlOf k s)) := by
  cases hsaid : isSaid s
  · obtain ⟨wd, al, hsp⟩ : ∃ wd al, splitB s 32 = wd :: al := by
      have hp := splitB_pos s 32
      cases e : splitB s 32 with
      | nil => rw [e] at hp; simp at hp
      | cons wd al => exact ⟨wd, al, rfl⟩
    by_cases hne : al = []
    · subst hne
      have := split_one hsp
      subst this
      exact RunLine_one a b c k wd w h hs ht hsz hsaid hsp
    · rw [rlOf_rest hsaid hsp hne]
      by_cases hwImage : wd = wImage
      · subst hwImage; exact RunLine_wImage a b c k s al w h hs ht hsz hsaid hsp hne
      by_cases hwSums : wd = wSums
      · subst hwSums; exact RunLine_wSums a b c k s al w h hs ht hsz hsaid hsp hne
      by_cases hwSwitch : wd = wSwitch
      · subst hwSwitch; exact RunLine_wSwitch a b c k s al w h hs ht hsz hsaid hsp hne
      by_cases hwFlip : wd = wFlip
      · subst hwFlip; exact RunLine_wFlip a b c k s al w h hs ht hsz hsaid hsp hne
      by_cases hwPath : wd = wPath
      · subst hwPath; exact RunLine_wPath a b c k s al w h hs ht hsz hsaid hsp hne
      by_cases hwNear : wd = wNear
      · subst hwNear; exact RunLine_wNear a b c k s al w h hs ht hsz hsaid hsp hne
      by_cases hwLine : wd = wLine
      · subst hwLine; exact RunLine_wLine a b c k s al w h hs ht hsz hsaid hsp hne
      have hpos : 1 ≤ al.length := by have h1 : al.length ≠ 0 := fun e => hne (List.length_eq_zero_iff.1 e); omega
      rw [restR_unk (.inr (img_ne hwImage hwPath hwNear)) (.inr hwSums) (fun n hn => numR_unk (.inl hwSwitch) (.inl hwFlip) (.inl hwLine))]
      by_cases h1 : al.length = 1
      · obtain ⟨t, rfl⟩ := List.length_eq_one_iff.1 h1
        exact RunLine_uo1 a b c k s [t] wd t w h hs ht hsz hsaid hsp h1 (NotNine.of hsp hne) (ba_lit_ne rfl hwImage) (ba_lit_ne rfl hwSums) (ba_lit_ne rfl hwSwitch) (ba_lit_ne rfl hwFlip) (ba_lit_ne rfl hwPath) (ba_lit_ne rfl hwNear) (ba_lit_ne rfl hwLine) rfl
      · exact RunLine_uon a b c k s al wd al.length w h hs ht hsz hsaid hsp rfl (NotNine.of hsp hne) (ba_lit_ne rfl hwImage) (ba_lit_ne rfl hwSums) (ba_lit_ne rfl hwSwitch) (ba_lit_ne rfl hwFlip) (ba_lit_ne rfl hwPath) (ba_lit_ne rfl hwNear) (ba_lit_ne rfl hwLine) hpos (nat_ne h1)
  · rw [rlOf_said hsaid]
    exact RunLine_i0 a b c k s w h hs hsaid
end Go.Proofs.YthmocomfjgmjoaaGreatDoor

/- The session that the law FnConfirms runs, line by line. Plain. -/
import Derived.Test.YthmocomfjgmjoaaGreatDoorQ28
import Derived.Test.YthmocomfjgmjoaaGreatDoorQ07
namespace Go.Proofs.YthmocomfjgmjoaaGreatDoor
open Go.RowKit
def Runs : Con → List ByteArray → List ByteArray → Prop
  | _, [], [] => True
  | k, s :: ls, t :: ts => ∃ k', rlOf k s = (k', t) ∧ t ≠ ByteArray.empty ∧ Runs k' ls ts
  | _, _, _ => False
def saidAll (ts : List ByteArray) (a : ByteArray) : ByteArray := ts.foldl (fun a t => a ++ t ++ ⟨#[10]⟩) a
theorem runs_fold : ∀ (ls ts : List ByteArray) (k : Con) (a : ByteArray), Runs k ls ts → (ls.foldl sessStep (k, a)).2 = saidAll ts a
  | [], [], _, _, _ => rfl
  | s :: ls, t :: ts, k, a, h => by
    obtain ⟨k', h1, h2, h3⟩ := h
    have e : sessStep (k, a) s = (k', a ++ t ++ ⟨#[10]⟩) := by unfold sessStep; dsimp only; rw [h1]; dsimp only; rw [if_neg h2]
    rw [List.foldl_cons, e, runs_fold ls ts k' _ h3]
    rfl
  | [], _ :: _, _, _, h => by cases h
  | _ :: _, [], _, _, h => by cases h
theorem rl_image {k : Con} {s t : ByteArray} {m : List (List Int)} {xs ys : List Int} (h1 : isSaid s = false) (h2 : splitB s 32 = [wImage, t]) (h3 : parseOk t = true) (h4 : parsed t = m) (h5 : rowSumsOf m = xs) (h6 : colSumsOf m = ys) : rlOf k s = (⟨m, xs, ys⟩, okB) := by
  rw [rlOf_rest h1 h2 (by simp), restR_img (by decide +kernel), if_pos h3, h4]
  unfold imageR
  rw [if_pos rfl, h5, h6]
theorem rl_path {k : Con} {s t T : ByteArray} {m : List (List Int)} (h1 : isSaid s = false) (h2 : splitB s 32 = [wPath, t]) (h3 : parseOk t = true) (h4 : parsed t = m) (h5 : plText k.img m = T) : rlOf k s = (k, T) := by
  rw [rlOf_rest h1 h2 (by simp), restR_img (by decide +kernel), if_pos h3, h4]
  unfold imageR
  rw [if_neg ne_wPath_wImage, if_pos rfl, h5]
theorem rl_near {k : Con} {s t T : ByteArray} {m x : List (List Int)} (h1 : isSaid s = false) (h2 : splitB s 32 = [wNear, t]) (h3 : parseOk t = true) (h4 : parsed t = m) (h5 : nearG k.rows k.cols m = some x) (h6 : formatImage x ++ ⟨#[32]⟩ ++ fmtInt (distG k.rows.length k.cols.length x m) = T) : rlOf k s = (k, T) := by
  rw [rlOf_rest h1 h2 (by simp), restR_img (by decide +kernel), if_pos h3, h4]
  unfold imageR
  rw [if_neg ne_wNear_wImage, if_neg ne_wNear_wPath, h5]
  dsimp only
  rw [h6]
theorem rl_sums {k : Con} {s a b T : ByteArray} {xs ys : List Int} (h1 : isSaid s = false) (h2 : splitB s 32 = [wSums, a, b]) (h3 : sumsText xs = a) (h4 : sumsText ys = b) (h5 : xs ≠ []) (h6 : ys ≠ []) (h7 : xs.all fun x => decide (0 ≤ x ∧ x ≤ 9)) (h8 : ys.all fun x => decide (0 ≤ x ∧ x ≤ 9)) (h9 : sumsLineOf xs ys = T) : rlOf k s = (⟨k.img, xs, ys⟩, T) := by
  have k1 : Ints64 xs := fun x hx => by have := List.all_eq_true.1 h7 x hx; rw [decide_eq_true_eq] at this; exact I64.small (by omega) (by omega)
  have k2 : Ints64 ys := fun x hx => by have := List.all_eq_true.1 h8 x hx; rw [decide_eq_true_eq] at this; exact I64.small (by omega) (by omega)
  obtain ⟨a1, a2⟩ := sums_format h5 k1
  obtain ⟨b1, b2⟩ := sums_format h6 k2
  rw [h3] at a1 a2
  rw [h4] at b1 b2
  rw [rlOf_rest h1 h2 (by simp), restR_sums]
  unfold sumsR
  rw [if_pos ⟨a1, b1⟩, a2, b2, h9]
theorem rl_num {k : Con} {s w : ByteArray} {al : List ByteArray} {n : List Int} (h1 : isSaid s = false) (h2 : splitB s 32 = w :: al) (h3 : al ≠ []) (h4 : al.length ≠ 1 ∨ isImgW w = false) (h5 : al.length ≠ 2 ∨ w ≠ wSums) (h6 : n.map fmtInt = al) (h7 : n.all fun x => decide (0 ≤ x ∧ x ≤ 9)) : rlOf k s = numR k w n := by
  have key : ∀ (n : List Int), (n.all fun x => decide (0 ≤ x ∧ x ≤ 9)) = true → (n.map fmtInt).all parseYes = true ∧ (n.map fmtInt).map parseVal = n := by
    intro n
    induction n with
    | nil => intro _; exact ⟨rfl, rfl⟩
    | cons x n ih =>
      intro h
      rw [List.all_cons, Bool.and_eq_true, decide_eq_true_eq] at h
      obtain ⟨i1, i2⟩ := ih h.2
      obtain ⟨p1, p2⟩ := parse_fmt (n := x) (I64.small (by omega) (by omega))
      exact ⟨by rw [List.map_cons, List.all_cons, p1, i1]; rfl, by rw [List.map_cons, List.map_cons, p2, i2]⟩
  obtain ⟨a, b⟩ := key n h7
  rw [h6] at a b
  rw [rlOf_rest h1 h2 h3, restR_num h4 h5, if_pos a, b]
theorem rl_word {k : Con} {s : ByteArray} (h1 : isSaid s = false) (h2 : splitB s 32 = [s]) : rlOf k s = wordR k s := rlOf_one h1 h2
abbrev cnA : Con := ⟨[[1, 0], [0, 1]], [1, 1], [1, 1]⟩
abbrev cnB : Con := ⟨[[0, 1], [1, 0]], [1, 1], [1, 1]⟩
abbrev cnC : Con := ⟨[[0, 1], [1, 0]], [2, 1], [2, 1]⟩
abbrev cnD : Con := ⟨[[1, 1], [1, 0]], [2, 1], [2, 1]⟩
abbrev cnE : Con := ⟨[[1, 1], [1, 0]], [3, 0], [1, 1, 1]⟩
abbrev cnF : Con := ⟨[[1, 1], [1, 0]], [2, 2], [3, 1]⟩
abbrev cnG1 : Con := ⟨[[1, 1], [1, 0]], [1, 1], [2, 0]⟩
abbrev cnG2 : Con := ⟨[[1, 1], [1, 0]], [2, 2], [2, 2]⟩
abbrev cnH1 : Con := ⟨[[1, 0], [1, 0]], [1, 1], [2, 0]⟩
abbrev cnH2 : Con := ⟨[[1, 1], [1, 1]], [2, 2], [2, 2]⟩
abbrev cnI1 : Con := ⟨[[1, 0], [1, 0]], [1, 1], [1, 1]⟩
abbrev cnI2 : Con := ⟨[[1, 1], [1, 1]], [1, 1], [1, 1]⟩
abbrev cnJ : Con := ⟨[[0, 1, 0], [1, 1, 1], [0, 1, 0]], [1, 3, 1], [1, 3, 1]⟩
theorem ord21 : ordOf [2, 1] 2 = [0, 1] := Ord.eq (ordOf_ord _ _) ⟨List.Perm.refl [0, 1], by simp [kl]⟩
theorem ord10 : ordOf [1, 0] 2 = [0, 1] := Ord.eq (ordOf_ord _ _) ⟨List.Perm.refl [0, 1], by simp [kl]⟩
theorem build21 : buildG [2, 1] [2, 1] = some [[1, 1], [1, 0]] := by
  have e1 : fillRow [2, 1] (2 : Int).toNat = [1, 1] := by
    unfold fillRow
    rw [show ([2, 1] : List Int).length = 2 from rfl, ord21]
    decide
  have e2 : fillRow [1, 0] (1 : Int).toNat = [1, 0] := by
    unfold fillRow
    rw [show ([1, 0] : List Int).length = 2 from rfl, ord10]
    decide
  unfold buildG
  rw [if_pos (by decide +kernel)]
  simp only [bld]
  rw [e1, show lower [2, 1] [1, 1] = [1, 0] by decide, e2]
theorem c1 : rlOf con0 ⟨#[105, 109, 97, 103, 101, 32, 35, 46, 47, 46, 35]⟩ = (cnA, ⟨#[111, 107]⟩) := rl_image (t := ⟨#[35, 46, 47, 46, 35]⟩) (by rfl) (by decide +kernel) (by decide +kernel) (by decide +kernel) (by decide +kernel) (by decide +kernel)
theorem c2 : rlOf cnA ⟨#[115, 104, 111, 119]⟩ = (cnA, ⟨#[35, 46, 47, 46, 35, 32, 114, 111, 119, 115, 32, 49, 44, 49, 32, 99, 111, 108, 115, 32, 49, 44, 49, 32, 102, 114, 101, 101, 32, 52]⟩) := by
  rw [rl_word (by rfl) (by decide +kernel)]
  unfold wordR
  rw [if_pos (by rfl)]
  exact Prod.ext rfl (show orNoneB (imageLineG [[1, 0], [0, 1]]) = ⟨#[35, 46, 47, 46, 35, 32, 114, 111, 119, 115, 32, 49, 44, 49, 32, 99, 111, 108, 115, 32, 49, 44, 49, 32, 102, 114, 101, 101, 32, 52]⟩ by decide +kernel)
theorem c3 : rlOf cnA ⟨#[97, 108, 108]⟩ = (cnA, ⟨#[46, 35, 47, 35, 46, 59, 35, 46, 47, 46, 35]⟩) := by
  rw [rl_word (by rfl) (by decide +kernel)]
  unfold wordR
  rw [if_neg (by decide +kernel), if_neg (by decide +kernel), if_neg (by decide +kernel), if_pos (by rfl)]
  exact Prod.ext rfl (show orNoneB (joinB ⟨#[59]⟩ (imgLines (imgsOf [1, 1] [1, 1]))) = ⟨#[46, 35, 47, 35, 46, 59, 35, 46, 47, 46, 35]⟩ by decide +kernel)
theorem pl12 : PLTxt [[1, 0], [0, 1]] [[0, 1], [1, 0]] ⟨#[49, 32, 115, 119, 105, 116, 99, 104, 101, 115, 32, 48, 58, 49, 58, 48, 58, 49]⟩ := by
  refine ⟨fun _ => ⟨[(0, 1, 0, 1)], ⟨⟨by decide, (by decide : applyS [[1, 0], [0, 1]] (0, 1, 0, 1) = [[0, 1], [1, 0]])⟩, fun q hq => ?_⟩, by decide +kernel⟩, fun h => absurd h (by decide +kernel)⟩
  match q, hq with
  | [], hq => exact absurd (show ([[1, 0], [0, 1]] : List (List Int)) = [[0, 1], [1, 0]] from hq) (by decide)
  | [s], hq =>
    obtain ⟨h1, -⟩ := hq
    left
    have hm := (switchesOf_mem (r := 2) (c := 2) (g := [[1, 0], [0, 1]]) (s := s)).2 h1
    have e : switchesOf 2 2 [[1, 0], [0, 1]] = [(0, 1, 0, 1)] := by decide +kernel
    have hm2 : s ∈ [((0, 1, 0, 1) : Sw)] := e ▸ hm
    rw [List.mem_singleton.1 hm2]
  | _ :: _ :: _, _ => right; left; simp
theorem c4 : rlOf cnA ⟨#[112, 97, 116, 104, 32, 46, 35, 47, 35, 46]⟩ = (cnA, ⟨#[49, 32, 115, 119, 105, 116, 99, 104, 101, 115, 32, 48, 58, 49, 58, 48, 58, 49]⟩) := rl_path (t := ⟨#[46, 35, 47, 35, 46]⟩) (by rfl) (by decide +kernel) (by decide +kernel) (by decide +kernel) (plText_eq pl12)
theorem c5 : rlOf cnA ⟨#[115, 119, 105, 116, 99, 104, 32, 48, 32, 49, 32, 48, 32, 49]⟩ = (cnB, ⟨#[46, 35, 47, 35, 46]⟩) := by
  rw [rl_num (w := wSwitch) (al := [⟨#[48]⟩, ⟨#[49]⟩, ⟨#[48]⟩, ⟨#[49]⟩]) (n := [0, 1, 0, 1]) (by rfl) (by decide +kernel) (by simp) (.inl (by decide)) (.inl (by decide)) (by decide +kernel) (by decide +kernel)]
  unfold numR
  rw [if_pos ⟨rfl, rfl⟩, show appG cnA.img ([0, 1, 0, 1].getD 0 0) ([0, 1, 0, 1].getD 1 0) ([0, 1, 0, 1].getD 2 0) ([0, 1, 0, 1].getD 3 0) = some [[0, 1], [1, 0]] by decide +kernel]
  exact Prod.ext rfl (show formatImage [[0, 1], [1, 0]] = ⟨#[46, 35, 47, 35, 46]⟩ by decide +kernel)
theorem c6 : rlOf cnB ⟨#[114, 101, 118, 101, 97, 108]⟩ = (cnB, ⟨#[48]⟩) := by
  rw [rl_word (by rfl) (by decide +kernel)]
  unfold wordR
  rw [if_neg (by decide +kernel), if_neg (by decide +kernel), if_neg (by decide +kernel), if_neg (by decide +kernel), if_neg (by decide +kernel), if_neg (by decide +kernel), if_pos (by rfl)]
  exact Prod.ext rfl (show sumsText ((greedyR [[0, 1], [1, 0]]).getD []) = ⟨#[48]⟩ by decide +kernel)
theorem c7 : rlOf cnB ⟨#[108, 105, 110, 101, 32, 49, 32, 49]⟩ = (cnB, ⟨#[49, 44, 48, 44, 49]⟩) := by
  rw [rl_num (w := wLine) (al := [⟨#[49]⟩, ⟨#[49]⟩]) (n := [1, 1]) (by rfl) (by decide +kernel) (by simp) (.inl (by decide)) (.inr ne_wLine_wSums) (by decide +kernel) (by decide +kernel)]
  unfold numR
  rw [if_neg (fun e => ne_wLine_wSwitch e.1), if_neg (fun e => ne_wLine_wFlip e.1), if_pos ⟨rfl, rfl⟩]
  exact Prod.ext rfl (show (if lineSums [[0, 1], [1, 0]] 1 1 = [] then noneB else sumsText (lineSums [[0, 1], [1, 0]] 1 1)) = ⟨#[49, 44, 48, 44, 49]⟩ by decide +kernel)
theorem c8 : rlOf cnB ⟨#[115, 117, 109, 115, 32, 50, 44, 49, 32, 50, 44, 49]⟩ = (cnC, ⟨#[114, 111, 119, 115, 32, 50, 44, 49, 32, 99, 111, 108, 115, 32, 50, 44, 49, 32, 105, 109, 97, 103, 101, 115, 32, 49]⟩) := rl_sums (a := ⟨#[50, 44, 49]⟩) (b := ⟨#[50, 44, 49]⟩) (xs := [2, 1]) (ys := [2, 1]) (by rfl) (by decide +kernel) (by decide +kernel) (by decide +kernel) (by decide +kernel) (by decide +kernel) (by decide +kernel) (by decide +kernel) (by decide +kernel)
theorem c9 : rlOf cnC ⟨#[98, 117, 105, 108, 100]⟩ = (cnD, ⟨#[35, 35, 47, 35, 46]⟩) := by
  rw [rl_word (by rfl) (by decide +kernel)]
  unfold wordR
  rw [if_neg (by decide +kernel), if_pos (by rfl)]
  rw [show buildG cnC.rows cnC.cols = some [[1, 1], [1, 0]] from build21]
  exact Prod.ext rfl (show formatImage [[1, 1], [1, 0]] = ⟨#[35, 35, 47, 35, 46]⟩ by decide +kernel)
theorem c10 : rlOf cnD ⟨#[115, 104, 111, 119]⟩ = (cnD, ⟨#[35, 35, 47, 35, 46, 32, 114, 111, 119, 115, 32, 50, 44, 49, 32, 99, 111, 108, 115, 32, 50, 44, 49, 32, 117, 110, 105, 113, 117, 101]⟩) := by
  rw [rl_word (by rfl) (by decide +kernel)]
  unfold wordR
  rw [if_pos (by rfl)]
  exact Prod.ext rfl (show orNoneB (imageLineG [[1, 1], [1, 0]]) = ⟨#[35, 35, 47, 35, 46, 32, 114, 111, 119, 115, 32, 50, 44, 49, 32, 99, 111, 108, 115, 32, 50, 44, 49, 32, 117, 110, 105, 113, 117, 101]⟩ by decide +kernel)
theorem c11 : rlOf cnD ⟨#[102, 105, 120, 101, 100]⟩ = (cnD, ⟨#[35, 35, 47, 35, 46]⟩) := by
  rw [rl_word (by rfl) (by decide +kernel)]
  unfold wordR
  rw [if_neg (by decide +kernel), if_neg (by decide +kernel), if_neg (by decide +kernel), if_neg (by decide +kernel), if_pos (by rfl)]
  exact Prod.ext rfl (show orNoneB (fixedText [2, 1] [2, 1]) = ⟨#[35, 35, 47, 35, 46]⟩ by decide +kernel)
theorem c12 : rlOf cnD ⟨#[115, 117, 109, 115, 32, 51, 44, 48, 32, 49, 44, 49, 44, 49]⟩ = (cnE, ⟨#[114, 111, 119, 115, 32, 51, 44, 48, 32, 99, 111, 108, 115, 32, 49, 44, 49, 44, 49, 32, 105, 109, 97, 103, 101, 115, 32, 49]⟩) := rl_sums (a := ⟨#[51, 44, 48]⟩) (b := ⟨#[49, 44, 49, 44, 49]⟩) (xs := [3, 0]) (ys := [1, 1, 1]) (by rfl) (by decide +kernel) (by decide +kernel) (by decide +kernel) (by decide +kernel) (by decide +kernel) (by decide +kernel) (by decide +kernel) (by decide +kernel)
theorem c13 : rlOf cnE ⟨#[115, 117, 109, 115, 32, 50, 44, 50, 32, 51, 44, 49]⟩ = (cnF, ⟨#[114, 111, 119, 115, 32, 50, 44, 50, 32, 99, 111, 108, 115, 32, 51, 44, 49, 32, 110, 111, 110, 101]⟩) := rl_sums (a := ⟨#[50, 44, 50]⟩) (b := ⟨#[51, 44, 49]⟩) (xs := [2, 2]) (ys := [3, 1]) (by rfl) (by decide +kernel) (by decide +kernel) (by decide +kernel) (by decide +kernel) (by decide +kernel) (by decide +kernel) (by decide +kernel) (by decide +kernel)
theorem c14a : rlOf cnF ⟨#[115, 117, 109, 115, 32, 49, 44, 49, 32, 50, 44, 48]⟩ = (cnG1, ⟨#[114, 111, 119, 115, 32, 49, 44, 49, 32, 99, 111, 108, 115, 32, 50, 44, 48, 32, 105, 109, 97, 103, 101, 115, 32, 49]⟩) := rl_sums (a := ⟨#[49, 44, 49]⟩) (b := ⟨#[50, 44, 48]⟩) (xs := [1, 1]) (ys := [2, 0]) (by rfl) (by decide +kernel) (by decide +kernel) (by decide +kernel) (by decide +kernel) (by decide +kernel) (by decide +kernel) (by decide +kernel) (by decide +kernel)
theorem c14b : rlOf cnF ⟨#[115, 117, 109, 115, 32, 50, 44, 50, 32, 50, 44, 50]⟩ = (cnG2, ⟨#[114, 111, 119, 115, 32, 50, 44, 50, 32, 99, 111, 108, 115, 32, 50, 44, 50, 32, 105, 109, 97, 103, 101, 115, 32, 49]⟩) := rl_sums (a := ⟨#[50, 44, 50]⟩) (b := ⟨#[50, 44, 50]⟩) (xs := [2, 2]) (ys := [2, 2]) (by rfl) (by decide +kernel) (by decide +kernel) (by decide +kernel) (by decide +kernel) (by decide +kernel) (by decide +kernel) (by decide +kernel) (by decide +kernel)
theorem c15a : rlOf cnG1 ⟨#[108, 101, 97, 115, 116]⟩ = (cnH1, ⟨#[35, 46, 47, 35, 46]⟩) := by
  rw [rl_word (by rfl) (by decide +kernel)]
  unfold wordR
  rw [if_neg (by decide +kernel), if_neg (by decide +kernel), if_pos (by rfl)]
  rw [show leastG cnG1.rows cnG1.cols = some [[1, 0], [1, 0]] by decide +kernel]
  exact Prod.ext rfl (show formatImage [[1, 0], [1, 0]] = ⟨#[35, 46, 47, 35, 46]⟩ by decide +kernel)
theorem c15b : rlOf cnG2 ⟨#[108, 101, 97, 115, 116]⟩ = (cnH2, ⟨#[35, 35, 47, 35, 35]⟩) := by
  rw [rl_word (by rfl) (by decide +kernel)]
  unfold wordR
  rw [if_neg (by decide +kernel), if_neg (by decide +kernel), if_pos (by rfl)]
  rw [show leastG cnG2.rows cnG2.cols = some [[1, 1], [1, 1]] by decide +kernel]
  exact Prod.ext rfl (show formatImage [[1, 1], [1, 1]] = ⟨#[35, 35, 47, 35, 35]⟩ by decide +kernel)
theorem c16a : rlOf cnH1 ⟨#[115, 117, 109, 115, 32, 49, 44, 49, 32, 49, 44, 49]⟩ = (cnI1, ⟨#[114, 111, 119, 115, 32, 49, 44, 49, 32, 99, 111, 108, 115, 32, 49, 44, 49, 32, 105, 109, 97, 103, 101, 115, 32, 50]⟩) := rl_sums (a := ⟨#[49, 44, 49]⟩) (b := ⟨#[49, 44, 49]⟩) (xs := [1, 1]) (ys := [1, 1]) (by rfl) (by decide +kernel) (by decide +kernel) (by decide +kernel) (by decide +kernel) (by decide +kernel) (by decide +kernel) (by decide +kernel) (by decide +kernel)
theorem c16b : rlOf cnH2 ⟨#[115, 117, 109, 115, 32, 49, 44, 49, 32, 49, 44, 49]⟩ = (cnI2, ⟨#[114, 111, 119, 115, 32, 49, 44, 49, 32, 99, 111, 108, 115, 32, 49, 44, 49, 32, 105, 109, 97, 103, 101, 115, 32, 50]⟩) := rl_sums (a := ⟨#[49, 44, 49]⟩) (b := ⟨#[49, 44, 49]⟩) (xs := [1, 1]) (ys := [1, 1]) (by rfl) (by decide +kernel) (by decide +kernel) (by decide +kernel) (by decide +kernel) (by decide +kernel) (by decide +kernel) (by decide +kernel) (by decide +kernel)
theorem c17a : rlOf cnI1 ⟨#[110, 101, 97, 114, 32, 35, 35, 47, 35, 35]⟩ = (cnI1, ⟨#[46, 35, 47, 35, 46, 32, 50]⟩) := rl_near (t := ⟨#[35, 35, 47, 35, 35]⟩) (by rfl) (by decide +kernel) (by decide +kernel) (m := [[1, 1], [1, 1]]) (by decide +kernel) (x := [[0, 1], [1, 0]]) (by decide +kernel) (by decide +kernel)
theorem c18a : rlOf cnI1 ⟨#[105, 109, 97, 103, 101, 32, 46, 35, 46, 47, 35, 35, 35, 47, 46, 35, 46]⟩ = (cnJ, ⟨#[111, 107]⟩) := rl_image (t := ⟨#[46, 35, 46, 47, 35, 35, 35, 47, 46, 35, 46]⟩) (by rfl) (by decide +kernel) (by decide +kernel) (by decide +kernel) (by decide +kernel) (by decide +kernel)
theorem c17b : rlOf cnI2 ⟨#[110, 101, 97, 114, 32, 35, 35, 47, 35, 35]⟩ = (cnI2, ⟨#[46, 35, 47, 35, 46, 32, 50]⟩) := rl_near (t := ⟨#[35, 35, 47, 35, 35]⟩) (by rfl) (by decide +kernel) (by decide +kernel) (m := [[1, 1], [1, 1]]) (by decide +kernel) (x := [[0, 1], [1, 0]]) (by decide +kernel) (by decide +kernel)
theorem c18b : rlOf cnI2 ⟨#[105, 109, 97, 103, 101, 32, 46, 35, 46, 47, 35, 35, 35, 47, 46, 35, 46]⟩ = (cnJ, ⟨#[111, 107]⟩) := rl_image (t := ⟨#[46, 35, 46, 47, 35, 35, 35, 47, 46, 35, 46]⟩) (by rfl) (by decide +kernel) (by decide +kernel) (by decide +kernel) (by decide +kernel) (by decide +kernel)
theorem c19 : rlOf cnJ ⟨#[112, 117, 122, 122, 108, 101]⟩ = (cnJ, ⟨#[49, 32, 115, 111, 108, 117, 116, 105, 111, 110, 115, 32, 46, 35, 46, 47, 35, 35, 35, 47, 46, 35, 46, 32, 108, 111, 103, 105, 99, 97, 108]⟩) := by
  rw [rl_word (by rfl) (by decide +kernel)]
  unfold wordR
  rw [if_neg (by decide +kernel), if_neg (by decide +kernel), if_neg (by decide +kernel), if_neg (by decide +kernel), if_neg (by decide +kernel), if_neg (by decide +kernel), if_neg (by decide +kernel), if_neg (by decide +kernel), if_pos (by rfl)]
  exact Prod.ext rfl (show orNoneB (puzzleLineOf (pzRows [[0, 1, 0], [1, 1, 1], [0, 1, 0]]) (pzCols [[0, 1, 0], [1, 1, 1], [0, 1, 0]])) = ⟨#[49, 32, 115, 111, 108, 117, 116, 105, 111, 110, 115, 32, 46, 35, 46, 47, 35, 35, 35, 47, 46, 35, 46, 32, 108, 111, 103, 105, 99, 97, 108]⟩ by decide +kernel)
theorem c20 : rlOf cnJ ⟨#[99, 111, 110, 118, 101, 120]⟩ = (cnJ, ⟨#[46, 35, 46, 47, 35, 35, 35, 47, 46, 35, 46]⟩) := by
  rw [rl_word (by rfl) (by decide +kernel)]
  unfold wordR
  rw [if_neg (by decide +kernel), if_neg (by decide +kernel), if_neg (by decide +kernel), if_neg (by decide +kernel), if_neg (by decide +kernel), if_pos (by rfl)]
  exact Prod.ext rfl (show orNoneB (joinB ⟨#[59]⟩ (imgLines (convG [1, 3, 1] [1, 3, 1]))) = ⟨#[46, 35, 46, 47, 35, 35, 35, 47, 46, 35, 46]⟩ by decide +kernel)
theorem c21 : rlOf cnJ ⟨#[119, 104, 97, 116]⟩ = (cnJ, ⟨#[117, 110, 107, 110, 111, 119, 110, 32, 99, 111, 109, 109, 97, 110, 100]⟩) := by
  rw [rl_word (by rfl) (by decide +kernel)]
  unfold wordR
  rw [if_neg (by decide +kernel), if_neg (by decide +kernel), if_neg (by decide +kernel), if_neg (by decide +kernel), if_neg (by decide +kernel), if_neg (by decide +kernel), if_neg (by decide +kernel), if_neg (by decide +kernel), if_neg (by decide +kernel)]
  rfl
def saidL1 : List ByteArray := [⟨#[111, 107]⟩, ⟨#[35, 46, 47, 46, 35, 32, 114, 111, 119, 115, 32, 49, 44, 49, 32, 99, 111, 108, 115, 32, 49, 44, 49, 32, 102, 114, 101, 101, 32, 52]⟩, ⟨#[46, 35, 47, 35, 46, 59, 35, 46, 47, 46, 35]⟩, ⟨#[49, 32, 115, 119, 105, 116, 99, 104, 101, 115, 32, 48, 58, 49, 58, 48, 58, 49]⟩, ⟨#[46, 35, 47, 35, 46]⟩, ⟨#[48]⟩, ⟨#[49, 44, 48, 44, 49]⟩, ⟨#[114, 111, 119, 115, 32, 50, 44, 49, 32, 99, 111, 108, 115, 32, 50, 44, 49, 32, 105, 109, 97, 103, 101, 115, 32, 49]⟩, ⟨#[35, 35, 47, 35, 46]⟩, ⟨#[35, 35, 47, 35, 46, 32, 114, 111, 119, 115, 32, 50, 44, 49, 32, 99, 111, 108, 115, 32, 50, 44, 49, 32, 117, 110, 105, 113, 117, 101]⟩, ⟨#[35, 35, 47, 35, 46]⟩, ⟨#[114, 111, 119, 115, 32, 51, 44, 48, 32, 99, 111, 108, 115, 32, 49, 44, 49, 44, 49, 32, 105, 109, 97, 103, 101, 115, 32, 49]⟩, ⟨#[114, 111, 119, 115, 32, 50, 44, 50, 32, 99, 111, 108, 115, 32, 51, 44, 49, 32, 110, 111, 110, 101]⟩, ⟨#[114, 111, 119, 115, 32, 49, 44, 49, 32, 99, 111, 108, 115, 32, 50, 44, 48, 32, 105, 109, 97, 103, 101, 115, 32, 49]⟩, ⟨#[35, 46, 47, 35, 46]⟩, ⟨#[114, 111, 119, 115, 32, 49, 44, 49, 32, 99, 111, 108, 115, 32, 49, 44, 49, 32, 105, 109, 97, 103, 101, 115, 32, 50]⟩, ⟨#[46, 35, 47, 35, 46, 32, 50]⟩, ⟨#[111, 107]⟩, ⟨#[49, 32, 115, 111, 108, 117, 116, 105, 111, 110, 115, 32, 46, 35, 46, 47, 35, 35, 35, 47, 46, 35, 46, 32, 108, 111, 103, 105, 99, 97, 108]⟩, ⟨#[46, 35, 46, 47, 35, 35, 35, 47, 46, 35, 46]⟩, ⟨#[117, 110, 107, 110, 111, 119, 110, 32, 99, 111, 109, 109, 97, 110, 100]⟩]
def linesL1 : List ByteArray := [⟨#[105, 109, 97, 103, 101, 32, 35, 46, 47, 46, 35]⟩, ⟨#[115, 104, 111, 119]⟩, ⟨#[97, 108, 108]⟩, ⟨#[112, 97, 116, 104, 32, 46, 35, 47, 35, 46]⟩, ⟨#[115, 119, 105, 116, 99, 104, 32, 48, 32, 49, 32, 48, 32, 49]⟩, ⟨#[114, 101, 118, 101, 97, 108]⟩, ⟨#[108, 105, 110, 101, 32, 49, 32, 49]⟩, ⟨#[115, 117, 109, 115, 32, 50, 44, 49, 32, 50, 44, 49]⟩, ⟨#[98, 117, 105, 108, 100]⟩, ⟨#[115, 104, 111, 119]⟩, ⟨#[102, 105, 120, 101, 100]⟩, ⟨#[115, 117, 109, 115, 32, 51, 44, 48, 32, 49, 44, 49, 44, 49]⟩, ⟨#[115, 117, 109, 115, 32, 50, 44, 50, 32, 51, 44, 49]⟩, ⟨#[115, 117, 109, 115, 32, 49, 44, 49, 32, 50, 44, 48]⟩, ⟨#[108, 101, 97, 115, 116]⟩, ⟨#[115, 117, 109, 115, 32, 49, 44, 49, 32, 49, 44, 49]⟩, ⟨#[110, 101, 97, 114, 32, 35, 35, 47, 35, 35]⟩, ⟨#[105, 109, 97, 103, 101, 32, 46, 35, 46, 47, 35, 35, 35, 47, 46, 35, 46]⟩, ⟨#[112, 117, 122, 122, 108, 101]⟩, ⟨#[99, 111, 110, 118, 101, 120]⟩, ⟨#[119, 104, 97, 116]⟩]
def textL1 : ByteArray := ⟨#[105, 109, 97, 103, 101, 32, 35, 46, 47, 46, 35, 10, 115, 104, 111, 119, 10, 97, 108, 108, 10, 112, 97, 116, 104, 32, 46, 35, 47, 35, 46, 10, 115, 119, 105, 116, 99, 104, 32, 48, 32, 49, 32, 48, 32, 49, 10, 114, 101, 118, 101, 97, 108, 10, 108, 105, 110, 101, 32, 49, 32, 49, 10, 115, 117, 109, 115, 32, 50, 44, 49, 32, 50, 44, 49, 10, 98, 117, 105, 108, 100, 10, 115, 104, 111, 119, 10, 102, 105, 120, 101, 100, 10, 115, 117, 109, 115, 32, 51, 44, 48, 32, 49, 44, 49, 44, 49, 10, 115, 117, 109, 115, 32, 50, 44, 50, 32, 51, 44, 49, 10, 115, 117, 109, 115, 32, 49, 44, 49, 32, 50, 44, 48, 10, 108, 101, 97, 115, 116, 10, 115, 117, 109, 115, 32, 49, 44, 49, 32, 49, 44, 49, 10, 110, 101, 97, 114, 32, 35, 35, 47, 35, 35, 10, 105, 109, 97, 103, 101, 32, 46, 35, 46, 47, 35, 35, 35, 47, 46, 35, 46, 10, 112, 117, 122, 122, 108, 101, 10, 99, 111, 110, 118, 101, 120, 10, 119, 104, 97, 116]⟩
theorem runsL1 : Runs con0 linesL1 saidL1 := ⟨cnA, c1, by decide, ⟨cnA, c2, by decide, ⟨cnA, c3, by decide, ⟨cnA, c4, by decide, ⟨cnB, c5, by decide, ⟨cnB, c6, by decide, ⟨cnB, c7, by decide, ⟨cnC, c8, by decide, ⟨cnD, c9, by decide, ⟨cnD, c10, by decide, ⟨cnD, c11, by decide, ⟨cnE, c12, by decide, ⟨cnF, c13, by decide, ⟨cnG1, c14a, by decide, ⟨cnH1, c15a, by decide, ⟨cnI1, c16a, by decide, ⟨cnI1, c17a, by decide, ⟨cnJ, c18a, by decide, ⟨cnJ, c19, by decide, ⟨cnJ, c20, by decide, ⟨cnJ, c21, by decide, trivial⟩⟩⟩⟩⟩⟩⟩⟩⟩⟩⟩⟩⟩⟩⟩⟩⟩⟩⟩⟩⟩
theorem linesL1_eq : linesB textL1 = linesL1 := by decide +kernel
theorem sessL1 : (sessOf textL1).1 = saidAll saidL1 ByteArray.empty := by
  unfold sessOf
  rw [linesL1_eq, if_pos (by decide)]
  exact runs_fold _ _ _ _ runsL1
theorem splitL1 : linesB (saidAll saidL1 ByteArray.empty) = saidL1 := by decide +kernel
def saidL2 : List ByteArray := [⟨#[111, 107]⟩, ⟨#[35, 46, 47, 46, 35, 32, 114, 111, 119, 115, 32, 49, 44, 49, 32, 99, 111, 108, 115, 32, 49, 44, 49, 32, 102, 114, 101, 101, 32, 52]⟩, ⟨#[46, 35, 47, 35, 46, 59, 35, 46, 47, 46, 35]⟩, ⟨#[49, 32, 115, 119, 105, 116, 99, 104, 101, 115, 32, 48, 58, 49, 58, 48, 58, 49]⟩, ⟨#[46, 35, 47, 35, 46]⟩, ⟨#[48]⟩, ⟨#[49, 44, 48, 44, 49]⟩, ⟨#[114, 111, 119, 115, 32, 50, 44, 49, 32, 99, 111, 108, 115, 32, 50, 44, 49, 32, 105, 109, 97, 103, 101, 115, 32, 49]⟩, ⟨#[35, 35, 47, 35, 46]⟩, ⟨#[35, 35, 47, 35, 46, 32, 114, 111, 119, 115, 32, 50, 44, 49, 32, 99, 111, 108, 115, 32, 50, 44, 49, 32, 117, 110, 105, 113, 117, 101]⟩, ⟨#[35, 35, 47, 35, 46]⟩, ⟨#[114, 111, 119, 115, 32, 51, 44, 48, 32, 99, 111, 108, 115, 32, 49, 44, 49, 44, 49, 32, 105, 109, 97, 103, 101, 115, 32, 49]⟩, ⟨#[114, 111, 119, 115, 32, 50, 44, 50, 32, 99, 111, 108, 115, 32, 51, 44, 49, 32, 110, 111, 110, 101]⟩, ⟨#[114, 111, 119, 115, 32, 50, 44, 50, 32, 99, 111, 108, 115, 32, 50, 44, 50, 32, 105, 109, 97, 103, 101, 115, 32, 49]⟩, ⟨#[35, 35, 47, 35, 35]⟩, ⟨#[114, 111, 119, 115, 32, 49, 44, 49, 32, 99, 111, 108, 115, 32, 49, 44, 49, 32, 105, 109, 97, 103, 101, 115, 32, 50]⟩, ⟨#[46, 35, 47, 35, 46, 32, 50]⟩, ⟨#[111, 107]⟩, ⟨#[49, 32, 115, 111, 108, 117, 116, 105, 111, 110, 115, 32, 46, 35, 46, 47, 35, 35, 35, 47, 46, 35, 46, 32, 108, 111, 103, 105, 99, 97, 108]⟩, ⟨#[46, 35, 46, 47, 35, 35, 35, 47, 46, 35, 46]⟩, ⟨#[117, 110, 107, 110, 111, 119, 110, 32, 99, 111, 109, 109, 97, 110, 100]⟩]
def linesL2 : List ByteArray := [⟨#[105, 109, 97, 103, 101, 32, 35, 46, 47, 46, 35]⟩, ⟨#[115, 104, 111, 119]⟩, ⟨#[97, 108, 108]⟩, ⟨#[112, 97, 116, 104, 32, 46, 35, 47, 35, 46]⟩, ⟨#[115, 119, 105, 116, 99, 104, 32, 48, 32, 49, 32, 48, 32, 49]⟩, ⟨#[114, 101, 118, 101, 97, 108]⟩, ⟨#[108, 105, 110, 101, 32, 49, 32, 49]⟩, ⟨#[115, 117, 109, 115, 32, 50, 44, 49, 32, 50, 44, 49]⟩, ⟨#[98, 117, 105, 108, 100]⟩, ⟨#[115, 104, 111, 119]⟩, ⟨#[102, 105, 120, 101, 100]⟩, ⟨#[115, 117, 109, 115, 32, 51, 44, 48, 32, 49, 44, 49, 44, 49]⟩, ⟨#[115, 117, 109, 115, 32, 50, 44, 50, 32, 51, 44, 49]⟩, ⟨#[115, 117, 109, 115, 32, 50, 44, 50, 32, 50, 44, 50]⟩, ⟨#[108, 101, 97, 115, 116]⟩, ⟨#[115, 117, 109, 115, 32, 49, 44, 49, 32, 49, 44, 49]⟩, ⟨#[110, 101, 97, 114, 32, 35, 35, 47, 35, 35]⟩, ⟨#[105, 109, 97, 103, 101, 32, 46, 35, 46, 47, 35, 35, 35, 47, 46, 35, 46]⟩, ⟨#[112, 117, 122, 122, 108, 101]⟩, ⟨#[99, 111, 110, 118, 101, 120]⟩, ⟨#[119, 104, 97, 116]⟩]
def textL2 : ByteArray := ⟨#[105, 109, 97, 103, 101, 32, 35, 46, 47, 46, 35, 10, 115, 104, 111, 119, 10, 97, 108, 108, 10, 112, 97, 116, 104, 32, 46, 35, 47, 35, 46, 10, 115, 119, 105, 116, 99, 104, 32, 48, 32, 49, 32, 48, 32, 49, 10, 114, 101, 118, 101, 97, 108, 10, 108, 105, 110, 101, 32, 49, 32, 49, 10, 115, 117, 109, 115, 32, 50, 44, 49, 32, 50, 44, 49, 10, 98, 117, 105, 108, 100, 10, 115, 104, 111, 119, 10, 102, 105, 120, 101, 100, 10, 115, 117, 109, 115, 32, 51, 44, 48, 32, 49, 44, 49, 44, 49, 10, 115, 117, 109, 115, 32, 50, 44, 50, 32, 51, 44, 49, 10, 115, 117, 109, 115, 32, 50, 44, 50, 32, 50, 44, 50, 10, 108, 101, 97, 115, 116, 10, 115, 117, 109, 115, 32, 49, 44, 49, 32, 49, 44, 49, 10, 110, 101, 97, 114, 32, 35, 35, 47, 35, 35, 10, 105, 109, 97, 103, 101, 32, 46, 35, 46, 47, 35, 35, 35, 47, 46, 35, 46, 10, 112, 117, 122, 122, 108, 101, 10, 99, 111, 110, 118, 101, 120, 10, 119, 104, 97, 116]⟩
theorem runsL2 : Runs con0 linesL2 saidL2 := ⟨cnA, c1, by decide, ⟨cnA, c2, by decide, ⟨cnA, c3, by decide, ⟨cnA, c4, by decide, ⟨cnB, c5, by decide, ⟨cnB, c6, by decide, ⟨cnB, c7, by decide, ⟨cnC, c8, by decide, ⟨cnD, c9, by decide, ⟨cnD, c10, by decide, ⟨cnD, c11, by decide, ⟨cnE, c12, by decide, ⟨cnF, c13, by decide, ⟨cnG2, c14b, by decide, ⟨cnH2, c15b, by decide, ⟨cnI2, c16b, by decide, ⟨cnI2, c17b, by decide, ⟨cnJ, c18b, by decide, ⟨cnJ, c19, by decide, ⟨cnJ, c20, by decide, ⟨cnJ, c21, by decide, trivial⟩⟩⟩⟩⟩⟩⟩⟩⟩⟩⟩⟩⟩⟩⟩⟩⟩⟩⟩⟩⟩
theorem linesL2_eq : linesB textL2 = linesL2 := by decide +kernel
theorem sessL2 : (sessOf textL2).1 = saidAll saidL2 ByteArray.empty := by
  unfold sessOf
  rw [linesL2_eq, if_pos (by decide)]
  exact runs_fold _ _ _ _ runsL2
theorem splitL2 : linesB (saidAll saidL2 ByteArray.empty) = saidL2 := by decide +kernel
end Go.Proofs.YthmocomfjgmjoaaGreatDoor

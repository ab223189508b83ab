/- Contracts and plain laws that the claims on sessions use. No condition of their own. -/
import Derived.Test.YthmocomfjgmjoaaGreatDoorQ11
import Derived.Test.YthmocomfjgmjoaaGreatDoorQ03
import Derived.Test.YthmocomfjgmjoaaGreatDoorQ16
import Derived.Test.YthmocomfjgmjoaaGreatDoorQ17
import Derived.Test.YthmocomfjgmjoaaGreatDoorQ15
import Derived.Test.YthmocomfjgmjoaaGreatDoorQ19
import Derived.Test.YthmocomfjgmjoaaGreatDoorQ21
import Derived.Test.YthmocomfjgmjoaaGreatDoorQ14
import Derived.Test.YthmocomfjgmjoaaGreatDoorQ20
import Derived.Test.YthmocomfjgmjoaaGreatDoorQ22
import Derived.Test.YthmocomfjgmjoaaGreatDoorQ23
import Derived.Test.YthmocomfjgmjoaaGreatDoorQ07
namespace Go.Proofs.YthmocomfjgmjoaaGreatDoor
open Go.RowKit
structure Con where
  img : List (List Int)
  rows : List Int
  cols : List Int
def noneB : ByteArray := ⟨#[110, 111, 110, 101]⟩
def unkB : ByteArray := ⟨#[117, 110, 107, 110, 111, 119, 110, 32, 99, 111, 109, 109, 97, 110, 100]⟩
def okB : ByteArray := ⟨#[111, 107]⟩
def orNoneB (t : ByteArray) : ByteArray := if t = ByteArray.empty then noneB else t
def putR (c : Con) : Option (List (List Int)) → Con × ByteArray
  | none => (c, noneB)
  | some m => (⟨m, c.rows, c.cols⟩, formatImage m)
def flipG (m : List (List Int)) (y x : Int) : Option (List (List Int)) := putG m y x (1 - celG m y x)
def wShow : ByteArray := ⟨#[115, 104, 111, 119]⟩
def wBuild : ByteArray := ⟨#[98, 117, 105, 108, 100]⟩
def wLeast : ByteArray := ⟨#[108, 101, 97, 115, 116]⟩
def wAll : ByteArray := ⟨#[97, 108, 108]⟩
def wFixed : ByteArray := ⟨#[102, 105, 120, 101, 100]⟩
def wConvex : ByteArray := ⟨#[99, 111, 110, 118, 101, 120]⟩
def wReveal : ByteArray := ⟨#[114, 101, 118, 101, 97, 108]⟩
def wRepair : ByteArray := ⟨#[114, 101, 112, 97, 105, 114]⟩
def wPuzzle : ByteArray := ⟨#[112, 117, 122, 122, 108, 101]⟩
def wImage : ByteArray := ⟨#[105, 109, 97, 103, 101]⟩
def wSums : ByteArray := ⟨#[115, 117, 109, 115]⟩
def wSwitch : ByteArray := ⟨#[115, 119, 105, 116, 99, 104]⟩
def wFlip : ByteArray := ⟨#[102, 108, 105, 112]⟩
def wPath : ByteArray := ⟨#[112, 97, 116, 104]⟩
def wNear : ByteArray := ⟨#[110, 101, 97, 114]⟩
def wLine : ByteArray := ⟨#[108, 105, 110, 101]⟩
def wordR (c : Con) (s : ByteArray) : Con × ByteArray :=
  if s = wShow then (c, orNoneB (imageLineG c.img))
  else if s = wBuild then putR c (buildG c.rows c.cols)
  else if s = wLeast then putR c (leastG c.rows c.cols)
  else if s = wAll then (c, orNoneB (joinB ⟨#[59]⟩ (imgLines (imgsOf c.rows c.cols))))
  else if s = wFixed then (c, orNoneB (fixedText c.rows c.cols))
  else if s = wConvex then (c, orNoneB (joinB ⟨#[59]⟩ (imgLines (convG c.rows c.cols))))
  else if s = wReveal then (c, sumsText ((greedyR c.img).getD []))
  else if s = wRepair then (c, if (closest c.rows c.cols).isSome = true then sumsText (repRows c.rows c.cols) ++ ⟨#[32]⟩ ++ sumsText (repCols c.rows c.cols) else noneB)
  else if s = wPuzzle then (c, orNoneB (puzzleLineOf (pzRows c.img) (pzCols c.img)))
  else (c, unkB)
open Classical in
noncomputable def plText (m t : List (List Int)) : ByteArray := if h : ∃ T, PLTxt m t T then Classical.choose h else ByteArray.empty
theorem plText_eq {m t : List (List Int)} {T : ByteArray} (h : PLTxt m t T) : plText m t = T := by
  have hx : ∃ T, PLTxt m t T := ⟨T, h⟩
  unfold plText
  rw [dif_pos hx]
  exact (Classical.choose_spec hx).eq h
noncomputable def imageR (c : Con) (w : ByteArray) (m : List (List Int)) : Con × ByteArray :=
  if w = wImage then (⟨m, rowSumsOf m, colSumsOf m⟩, okB)
  else if w = wPath then (c, plText c.img m)
  else match nearG c.rows c.cols m with
    | none => (c, noneB)
    | some x => (c, formatImage x ++ ⟨#[32]⟩ ++ fmtInt (distG c.rows.length c.cols.length x m))
noncomputable def sumsR (c : Con) (a b : ByteArray) : Con × ByteArray :=
  if sumsYes a = true ∧ sumsYes b = true then (⟨c.img, sumsVal a, sumsVal b⟩, sumsLineOf (sumsVal a) (sumsVal b)) else (c, unkB)
def numR (c : Con) (w : ByteArray) (n : List Int) : Con × ByteArray :=
  if w = wSwitch ∧ n.length = 4 then putR c (appG c.img (n.getD 0 0) (n.getD 1 0) (n.getD 2 0) (n.getD 3 0))
  else if w = wFlip ∧ n.length = 2 then putR c (flipG c.img (n.getD 0 0) (n.getD 1 0))
  else if w = wLine ∧ n.length = 2 then (c, if lineSums c.img (n.getD 0 0) (n.getD 1 0) = [] then noneB else sumsText (lineSums c.img (n.getD 0 0) (n.getD 1 0)))
  else (c, unkB)
def isSaid (s : ByteArray) : Bool := s.data.toList.head?.all (fun b => b == 35)
def isImgW (w : ByteArray) : Bool := decide (w = wImage) || (decide (w = wPath) || decide (w = wNear))
noncomputable def restR (c : Con) (w : ByteArray) (a : List ByteArray) : Con × ByteArray :=
  if a.length = 1 ∧ isImgW w = true then (if parseOk (a.getD 0 ⟨#[]⟩) = true then imageR c w (parsed (a.getD 0 ⟨#[]⟩)) else (c, unkB))
  else if a.length = 2 ∧ w = wSums then sumsR c (a.getD 0 ⟨#[]⟩) (a.getD 1 ⟨#[]⟩)
  else if a.all parseYes = true then numR c w (a.map parseVal) else (c, unkB)
noncomputable def rlOf (c : Con) (s : ByteArray) : Con × ByteArray :=
  if isSaid s = true then (c, ⟨#[]⟩)
  else if (splitB s 32).length = 1 then wordR c s
  else restR c ((splitB s 32).getD 0 ⟨#[]⟩) ((splitB s 32).drop 1)
theorem Strs.at0 {w : World} {g n c : Nat} {l : List ByteArray} (h : Strs w (.slice (some ⟨g, 0, none⟩) n c) l) {k : Nat} {x : ByteArray} (hk : l[k]? = some x) : w.cell? ⟨g, k, none⟩ = some (.string x) := by
  obtain ⟨u, hu, rfl, -⟩ := Sl.at h hk
  rw [Nat.zero_add] at hu
  exact hu
theorem wShow_split : splitB wShow 32 = [wShow] := by decide +kernel
theorem wBuild_split : splitB wBuild 32 = [wBuild] := by decide +kernel
theorem wLeast_split : splitB wLeast 32 = [wLeast] := by decide +kernel
theorem wAll_split : splitB wAll 32 = [wAll] := by decide +kernel
theorem wFixed_split : splitB wFixed 32 = [wFixed] := by decide +kernel
theorem wConvex_split : splitB wConvex 32 = [wConvex] := by decide +kernel
theorem wReveal_split : splitB wReveal 32 = [wReveal] := by decide +kernel
theorem wRepair_split : splitB wRepair 32 = [wRepair] := by decide +kernel
theorem wPuzzle_split : splitB wPuzzle 32 = [wPuzzle] := by decide +kernel
theorem lines_bulk {L : List (List (List Int))} (h : L.length ≤ 1073741824) : bulkB ⟨#[59]⟩ (imgLines L) ≤ 1099511627776 := by
  have h1 := bulkB_le ⟨#[59]⟩ (xs := imgLines L) (m := 1000) (fun x hx => by
    obtain ⟨m, -, rfl⟩ := List.mem_map.1 hx
    exact formatImage_le m)
  rw [imgLines_len] at h1
  have e1 : (⟨#[59]⟩ : ByteArray).size = 1 := rfl
  rw [e1] at h1
  omega
theorem convG_big (xs ys : List Int) : (convG xs ys).length ≤ 1073741824 := Nat.le_trans (List.length_filter_le _ _) (imgsOf_len xs ys)
def repText (xs ys : List Int) : ByteArray := if (closest xs ys).isSome = true then sumsText (repRows xs ys) ++ ⟨#[32]⟩ ++ sumsText (repCols xs ys) else noneB
structure RepSz (A B : ByteArray) : Prop where
  a : A.size ≤ 1000
  b : B.size ≤ 1000
  c : (A ++ ⟨#[32]⟩ : ByteArray).size ≤ 2000
theorem repSz {A B : List Int} (h1 : Ints64 A) (h2 : Ints64 B) (l1 : A.length ≤ 5) (l2 : B.length ≤ 5) : RepSz (sumsText A) (sumsText B) := by
  have a := sumsText_size h1
  have b := sumsText_size h2
  have e2 : (⟨#[32]⟩ : ByteArray).size = 1 := rfl
  refine ⟨by omega, by omega, ?_⟩
  simp only [ba_append_size, e2]
  omega
theorem len_cells {g : List (List Int)} {r : List Int} (h : r ∈ g) : r.length ≤ cells g := by
  induction g with
  | nil => simp at h
  | cons x g ih =>
    have e : cells (x :: g) = x.length + cells g := by simp [cells]
    rcases List.mem_cons.1 h with rfl | h
    · omega
    · have := ih h; omega
theorem pz_lens (m : List (List Int)) : (∀ r ∈ pzRows m, r.length ≤ 1048576) ∧ (∀ r ∈ pzCols m, r.length ≤ 1048576) := by
  obtain ⟨-, h1, -, h2⟩ := pz_bd m
  exact ⟨fun r hr => by have := len_cells hr; omega, fun r hr => by have := len_cells hr; omega⟩
end Go.Proofs.YthmocomfjgmjoaaGreatDoor

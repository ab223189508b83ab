/- Contracts: sums out of texts: ParseInt of the program, ParseSums. -/
import Derived.Test.YtekgnpdchpdfiaaDoorF6
import Derived.Test.YtekgnpdchpdfiaaDoorF4
import Derived.Test.YtekgnpdchpdfiaaDoorT4
import Derived.Lib.AtoiErrMem
namespace Go.Proofs.YtekgnpdchpdfiaaDoor
open Go.RowKit

theorem atoi_I64 {l : List UInt8} {v : Int} (h : Lib.atoiAll l = .ok v) : I64 v := by
  unfold Lib.atoiAll at h
  split at h
  · cases h
  · rename_i c r
    simp only at h
    split at h
    · cases h
    · cases h
    · rename_i u hu
      split at h
      · cases h
      · split at h
        · cases h
        · rename_i h1 h2
          injection h with h
          by_cases hn : c.toNat = 45
          · simp only [hn, if_true] at h; simp [hn] at h1 h2; subst h; exact ⟨by omega, by omega⟩
          · simp only [hn, if_false] at h; simp [hn] at h1 h2; subst h; exact ⟨by omega, by omega⟩
/-- the library's two errors hold what their initialisers lay -/
def Errs (w : World) : Prop := (∃ te pe, w.cell? ⟨1, 0, none⟩ = some (.iface te pe)) ∧ (∃ te pe, w.cell? ⟨2, 0, none⟩ = some (.iface te pe))
theorem Errs.keep {w w' : World} (h : Errs w) (hb : Below w.heap.size w w') : Errs w' := by
  obtain ⟨⟨a, b, h1⟩, ⟨c, d, h2⟩⟩ := h
  exact ⟨⟨a, b, (hb.cell (block_lt_of_cell h1)).trans h1⟩, ⟨c, d, (hb.cell (block_lt_of_cell h2)).trans h2⟩⟩
def TabE (w : World) : Prop := Tab w ∧ Errs w
theorem TabE.keep {w w' : World} (h : TabE w) (hb : Below w.heap.size w w') : TabE w' := ⟨h.1.keep hb, h.2.keep hb⟩
theorem below_bytes {w w' : World} {e : TypeId} (h : w' = w ∨ ∃ t, w' = Lib.bytesWorld w e t) : Below w.heap.size w w' := by
  rcases h with rfl | ⟨t, rfl⟩
  · exact Below.refl _ _
  · exact Lib.bytesWorld_below _ _ _
set_option maxHeartbeats 800000 in
theorem ParseInt_i (s : ByteArray) (w : World) (hs : s.size ≤ 1048576) (ht : TabE w) : Calls Tryd.prog 69 #[.string s] w (PNum w s) := by
  obtain ⟨hT, ⟨te, pe, he1⟩, ⟨te2, pe2, he2⟩⟩ := ht
  have HT := Lib.hid hT
  cases ha : Lib.atoiAll s.data.toList with
  | ok v =>
    have hI := atoi_I64 ha
    have Ha := Lib.hid ha
    clear ha he1 he2 hT
    go_enter Tryd.func69, Tryd.ntmps69
    go_wp2_with (fail)
    refine (Tryd.strconv_Atoi_ok s (by omega) v Ha.out w).mono ?_
    rintro e w1 ⟨rfl, hw⟩
    have b1 := below_bytes hw
    clear hw
    go_wp2_with (fail)
    refine (FormatInt_i v hI _ (HT.out.keep b1)).mono ?_
    rintro e w2 ⟨rfl, b2⟩
    have bb := b1.trans_pure b2 (Nat.le_refl _)
    by_cases hf : fmtInt v = s
    · obtain ⟨r1, r2⟩ := parse_yes (parseI_some (s := s) (n := v) ⟨hI.out, hf⟩)
      have Hr := Lib.hid (show PNum w s (.returned (.tuple #[.int .i64 v, .bool true])) w2 from ⟨by rw [r1, r2], bb⟩)
      clear r1 r2
      rw [hf]
      clear hf
      go_wp2
      refine bodyPost_ret (v := .tuple #[.int .i64 v, .bool true]) (by simp [results, Tryd.results69, go_sem]) rfl Hr.out
    · have hp := parse_none_of (s := s) (fun n h => by
        have h2 := parseI_atoi h
        rw [Ha.out] at h2
        injection h2 with h2
        exact hf (by rw [h2]; exact (parseI_num h).2))
      obtain ⟨r1, r2⟩ := parse_no hp
      have Hr := Lib.hid (show PNum w s (.returned (.tuple #[.int .i64 0, .bool false])) w2 from ⟨by rw [r1, r2], bb⟩)
      have hne := ba_neq' hf
      clear r1 r2 hf
      go_wp2
      refine bodyPost_ret (v := .tuple #[.int .i64 0, .bool false]) (by simp [results, Tryd.results69, go_sem]) rfl Hr.out
  | «syntax» =>
    have hp := parse_none_of (s := s) (fun n h => by have h2 := parseI_atoi h; rw [ha] at h2; cases h2)
    obtain ⟨r1, r2⟩ := parse_no hp
    have Hr := Lib.hid (fun w2 (bb : Below w.heap.size w w2) => show PNum w s (.returned (.tuple #[.int .i64 0, .bool false])) w2 from ⟨by rw [r1, r2], bb⟩)
    have Ha := Lib.hid ha
    clear ha hT r1 r2 he2
    have He := Lib.hid he1
    clear he1
    go_enter Tryd.func69, Tryd.ntmps69
    go_wp2_with (fail)
    refine (Tryd.strconv_Atoi_syntax s (by omega) Ha.out _ w He.out (.inr ⟨te, pe, rfl⟩)).mono ?_
    rintro e w1 ⟨N, rfl, -, -, b1⟩
    go_wp2
    refine bodyPost_ret (v := .tuple #[.int .i64 0, .bool false]) (by simp [results, Tryd.results69, go_sem]) rfl (Hr.out _ b1)
  | range =>
    have hp := parse_none_of (s := s) (fun n h => by have h2 := parseI_atoi h; rw [ha] at h2; cases h2)
    obtain ⟨r1, r2⟩ := parse_no hp
    have Hr := Lib.hid (fun w2 (bb : Below w.heap.size w w2) => show PNum w s (.returned (.tuple #[.int .i64 0, .bool false])) w2 from ⟨by rw [r1, r2], bb⟩)
    have Ha := Lib.hid ha
    clear ha hT r1 r2 he1
    have He := Lib.hid he2
    clear he2
    go_enter Tryd.func69, Tryd.ntmps69
    go_wp2_with (fail)
    refine (Tryd.strconv_Atoi_range s (by omega) Ha.out _ w He.out (.inr ⟨te2, pe2, rfl⟩)).mono ?_
    rintro e w1 ⟨N, rfl, -, -, b1⟩
    go_wp2
    refine bodyPost_ret (v := .tuple #[.int .i64 0, .bool false]) (by simp [results, Tryd.results69, go_sem]) rfl (Hr.out _ b1)
end Go.Proofs.YtekgnpdchpdfiaaDoor

/- Contracts: numbers as texts: FormatInt of the program, over the table that strconv reads. -/
import Derived.Test.YtekgnpdchpdfiaaDoorF1
import Derived.Test.YtekgnpdchpdfiaaDoorShelf
import Derived.Lib.LaidTab
namespace Go.Proofs.YtekgnpdchpdfiaaDoor
open Go.RowKit

/-- the library's table of powers of ten holds what its initialiser lays -/
def Tab (w : World) : Prop := Lib.TabIs Tryd.prog w "internal/strconv.uint64pow10" .u64 Lib.pow10Tab
theorem Tab.keep {w w' : World} (h : Tab w) (hb : Below w.heap.size w w') : Tab w' := by
  have hg : Tryd.prog.globalNamed "internal/strconv.uint64pow10" = some 3 := by kernel_rfl
  unfold Tab Lib.TabIs World.var? at h ⊢
  rw [hg] at h ⊢
  simp only [Option.bind_some] at h ⊢
  have hlt : 3 < w.heap.size := by
    rcases Nat.lt_or_ge 3 w.heap.size with h' | h'
    · exact h'
    · rw [Array.getElem?_eq_none h'] at h; cases h
  rw [hb.block _ hlt]
  exact h
theorem below_grow {w w' : World} (h : ∃ k os, w' = Go.Sort.grow (w.drewN k) os) : Below w.heap.size w w' := by
  obtain ⟨k, os, rfl⟩ := h
  refine ⟨rfl, rfl, rfl, by simp, fun b hb => ?_⟩
  show (w.heap ++ os)[b]? = _
  rw [Array.getElem?_append, if_pos hb]
theorem FormatInt_i (n : Int) (hn : I64 n) (w : World) (ht : Tab w) : Calls Tryd.prog 54 #[.int .i64 n] w fun e w' => e = .returned (.string (fmtInt n)) ∧ Below w.heap.size w w' := by
  obtain ⟨h1, h2⟩ := hn.out
  go_enter Tryd.func54, Tryd.ntmps54
  go_wp2_with (first | (go_at_call 94; refine (Tryd.strconv_Itoa n h1 h2 _ ht).mono ?_; rintro e w' ⟨rfl, hg⟩))
  have hb := below_grow hg
  clear hg
  go_ret
  exact ⟨rfl, hb⟩
end Go.Proofs.YtekgnpdchpdfiaaDoor

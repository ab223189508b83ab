/- A block of plain cells. -/
import Derived.Test.YtliejhmlcdjpcaaMem
namespace Go.Proofs.Ytliejhmlcdjpcaa
open Go.RowKit

def Blk (w : World) (g : Nat) (cs : Array Value) (t : TypeId) : Prop := w.heap[g]? = some (.cells cs t (0, 0))
theorem Blk.lt {w : World} {g : Nat} {cs : Array Value} {t : TypeId} (h : Blk w g cs t) : g < w.heap.size := lt_of_block h
theorem Blk.keep {w w' : World} {g : Nat} {cs : Array Value} {t : TypeId} (h : Blk w g cs t) (hb : Below w.heap.size w w') : Blk w' g cs t := (hb.block g h.lt).trans h
theorem Blk.only {S : Bk} {w w' : World} {g : Nat} {cs : Array Value} {t : TypeId} (h : Blk w g cs t) (hb : Only S w w') (hn : ¬ S g) : Blk w' g cs t := (hb.block g h.lt hn).trans h
theorem Blk.set {w : World} {g j : Nat} {cs : Array Value} {t : TypeId} (h : Blk w g cs t) (u : Value) : Blk (w.setCell ⟨g, j, none⟩ u) g (cs.setIfInBounds j u) t := heap_setCell_same w g j cs t u h
theorem Blk.set_ne {w : World} {g g' j : Nat} {cs : Array Value} {t : TypeId} (h : Blk w g cs t) (hne : g ≠ g') (u : Value) : Blk (w.setCell ⟨g', j, none⟩ u) g cs t := (Below.heap_setCell w _ _ g (by simpa using hne)).trans h
theorem Blk.cell {w : World} {g : Nat} {cs : Array Value} {t : TypeId} (h : Blk w g cs t) (j : Nat) : w.cell? ⟨g, j, none⟩ = cs[j]? := cell_of_row w g j _ _ _ h
theorem Blk.frozen {w : World} {g : Nat} {cs : Array Value} {t : TypeId} (h : Blk w g cs t) (j : Nat) : w.frozen? ⟨g, j, none⟩ = false := frozen_of_row w g j _ _ h
theorem Blk.new (w : World) (cs : Array Value) (t : TypeId) : Blk (w.alloc (.cells cs t)) w.heap.size cs t := heap_alloc_new w _
end Go.Proofs.Ytliejhmlcdjpcaa

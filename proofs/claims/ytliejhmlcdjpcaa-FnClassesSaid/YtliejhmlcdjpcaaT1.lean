/- Contracts: texts: IndexByte, SplitAny, Join. -/
import Derived.Test.YtliejhmlcdjpcaaC1
import Derived.Test.YtliejhmlcdjpcaaText
import Derived.Lib.Strings
import Derived.Lib.Slices
import Derived.Lib.Walk
import Derived.Lib.Bytealg
namespace Go.Proofs.Ytliejhmlcdjpcaa
open Go.RowKit

theorem infoStr : (Try.prog.info? 9).map (fun i => (i.zero, i.size, i.bytes)) = some (some (.string ⟨#[]⟩), 1, 16) := by kernel_rfl


theorem splitSt_hit {s : ByteArray} {b : UInt8} {k : Nat} (h : s.data.toList[k]? = some b) : splitSt s b (k + 1) = ((splitSt s b k).1 ++ [s.extract (splitSt s b k).2 k], k + 1) := by
  conv => lhs; unfold splitSt
  rw [if_pos h]
theorem splitSt_miss {s : ByteArray} {b : UInt8} {k : Nat} (h : s.data.toList[k]? ≠ some b) : splitSt s b (k + 1) = splitSt s b k := by
  conv => lhs; unfold splitSt
  rw [if_neg h]

theorem strV_extract {s : ByteArray} (hs : s.size ≤ 1048576) (i j : Nat) : (s.extract i j).size ≤ 9223372036854775807 := by have := extract_size_le s i j; omega
end Go.Proofs.Ytliejhmlcdjpcaa

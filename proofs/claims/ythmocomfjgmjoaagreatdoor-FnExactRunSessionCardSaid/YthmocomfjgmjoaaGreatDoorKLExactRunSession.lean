/- Base. -/
import Derived.Test.YthmocomfjgmjoaaGreatDoorKVr
import Derived.Test.YthmocomfjgmjoaaGreatDoorKZr
set_option maxHeartbeats 1000000
set_option maxRecDepth 100000
namespace Go.Proofs.YthmocomfjgmjoaaGreatDoor
open Go.RowKit Go.Proofs.Tryz
theorem MZ{w:World}{t0:ByteArray}(_hx0:t0.size≤9223372036854775807)(ht:Ck w):
  Calls prog 5 #[.string t0] w fun e w'=>e=.returned (.bool true)∧Below w.heap.size w w':=by
 rcases Nat.lt_or_ge 1048576 t0.size with z0|z0
 ·go_enter func5,ntmps5;go_wp2
  go_ret
  exact⟨rfl,A6 _ _⟩
 have Hs:=Z (We t0 w ht z0);have Hi:=Z (fun w1 (b:Below w.heap.size w w1)=>Vj t0 w1 (ht.keep b) z0);obtain⟨T,n,hT,hn⟩:∃(T:ByteArray)(n:Int),T=(Ie t0).1∧n=(Ie t0).2:=⟨_,_,rfl,rfl⟩;rw[←hT,←hn]at Hs Hi;clear hT hn;go_enter func5,ntmps5;go_wp2_with fail;refine Hs.o.mono ?_;rintro e w1 ⟨rfl,b1⟩;go_wp2_with fail;refine(Hi.o _ b1).mono ?_;rintro e w2 ⟨rfl,b2⟩;have cI:=b1.qaa b2 (A2 _);go_wp2
 go_ret
 exact⟨rfl,cI⟩

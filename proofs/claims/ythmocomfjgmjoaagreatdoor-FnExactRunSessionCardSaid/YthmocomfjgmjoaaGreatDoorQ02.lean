/- Base. -/
import Derived.Test.YthmocomfjgmjoaaGreatDoorRows
import Derived.Test.YthmocomfjgmjoaaGreatDoorQ01
import Derived.WalkLawsBesides
import Derived.WalkSpells
import Derived.BigQuiet
import Derived.BigGuardPart
import Derived.Deep.RegionHeld3
set_option maxHeartbeats 2000000
set_option maxRecDepth 100000
namespace Go.Proofs.YthmocomfjgmjoaaGreatDoor
open Go.RowKit
variable {hi:Int}{j k:Nat}{lo n:Int}{α:Type}{x:α}{xs:U}
theorem Bg:(Tryz.prog.info? 3).map (fun i=>(i.zero,i.size,i.bytes))=some (some (.int .i64 0),1,8):=by kernel_rfl
theorem A2y(w:World)(n q:Nat):∃m,(w.drewN n).drewN q=w.drewN m:=⟨n+q,World.drewN_drewN _ _ _⟩
theorem A2r{w wr:World}{n:Nat}(h:wr=w.drewN n)(q:Nat):∃m,wr.drewN q=w.drewN m:=⟨n+q,by rw[h];exact World.drewN_drewN _ _ _⟩
theorem AW{b b':Bool}(h:b=b'):Ending.returned (.bool b)=Ending.returned (.bool b'):=by rw[h]
theorem CY{n':Int}(h:n=n'):Ending.returned (.int .i64 n)=Ending.returned (.int .i64 n'):=by rw[h]
def C1(lo hi n:Int):Bool:=decide (lo≤n)&&decide (n≤hi)
theorem Ft(h1:lo≤n)(h2:n≤hi):C1 lo hi n=true:=by simp[C1,h1,h2]
theorem Bz:C1 lo hi n=true↔lo≤n∧n≤hi:=by simp[C1]
theorem Bi(n lo hi:Int)(w:World):Calls Tryz.prog 95 #[.int .i64 n,.int .i64 lo,.int .i64 hi] w fun e w'=>e=.returned (.bool (C1 lo hi n))∧w=w':=by
 by_cases h1:lo≤n
 ·by_cases h2:n≤hi
  ·have h:C1 lo hi n=true:=by simp[C1,h1,h2]
   rw[h];clear h;go_enter Tryz.func95,Tryz.ntmps95;go_wp2
   go_ret
   exact⟨rfl,rfl⟩
  ·have h:C1 lo hi n=false:=by simp[C1,h2]
   rw[h];clear h;go_enter Tryz.func95,Tryz.ntmps95;go_wp2
   go_ret
   exact⟨rfl,rfl⟩
 ·have h:C1 lo hi n=false:=by simp[C1,h1]
  rw[h];clear h;go_enter Tryz.func95,Tryz.ntmps95;go_wp2
  go_ret
  exact⟨rfl,rfl⟩
theorem Bd(n lo hi:Int)(w:World):Calls Tryz.prog 201 #[.int .i64 n,.int .i64 lo,.int .i64 hi] w fun e w'=>e=.returned (.bool (C1 lo hi n))∧w=w':=by
 by_cases h1:lo≤n
 ·by_cases h2:n≤hi
  ·have h:C1 lo hi n=true:=by simp[C1,h1,h2]
   rw[h];clear h;go_enter Tryz.func201,Tryz.ntmps201;go_wp2
   go_ret
   exact⟨rfl,rfl⟩
  ·have h:C1 lo hi n=false:=by simp[C1,h2]
   rw[h];clear h;go_enter Tryz.func201,Tryz.ntmps201;go_wp2
   go_ret
   exact⟨rfl,rfl⟩
 ·have h:C1 lo hi n=false:=by simp[C1,h1]
  rw[h];clear h;go_enter Tryz.func201,Tryz.ntmps201;go_wp2
  go_ret
  exact⟨rfl,rfl⟩
theorem BX(p:α→Bool){xs:List α}(h:xs[k]? =some x):(xs.take (k+1)).all p=((xs.take k).all p&&p x):=by
 obtain⟨hk,hx⟩:=A5.1 h;rw[List.take_succ_eq_append_getElem hk,List.all_append,hx];simp
theorem DR{p:α→Bool}{xs:List α}(h:(xs.take k).all p=true)(hk:xs.length≤k):xs.all p=true:=by
 rw[A9 hk]at h;exact h
theorem BM(p:α→Bool){xs:List α}(h:xs[k]? =some x)(hp:p x=false):xs.all p=false:=by
 rw[List.all_eq_false];exact⟨x,A4 h,by simp[hp]⟩
theorem C8(v:Value)(xs:U)(lo hi:Int)(w:World)(hv:Au w v xs):Calls Tryz.prog 157 #[v,.int .i64 lo,.int .i64 hi] w fun e w'=>e=.returned (.bool (xs.all (C1 lo hi)))∧w=w':=by
 obtain⟨a,cap,rfl,ae,cJ,-,hc⟩:=hv;go_enter Tryz.func157,Tryz.ntmps157;go_wp2;go_loop [8,11] (fun _ i=>∃k:Nat,k≤xs.length∧i=.int .i64 k∧(xs.take k).all (C1 lo hi)=true) (fun _ i=>xs.length-(intOf i).toNat);exact⟨0,A7 _,rfl,rfl⟩;obtain⟨k,hk,rfl,aQ⟩:=hrel;have aT:=Z aQ;clear aQ;by_cases aF:k<xs.length
 ·obtain⟨b,off,rfl,-,bO⟩:=hc J;obtain⟨x,hx⟩:∃x,xs[k]? =some x:=⟨_,A3 aF⟩;obtain⟨u,aW,rfl,-⟩:=bO k x hx;have Hs:=Z (BX (C1 lo hi) hx);have Hx:=Z hx;clear hx hc bO;cases bV:C1 lo hi x
  ·have dC:=Z bV;go_wp2_with (first|(go_at_call 95;refine(Bi _ _ _ _).mono ?_;rintro e w' ⟨rfl,rfl⟩))
   go_ret
   exact⟨AW (BM _ Hx.o dC.o).symm,rfl⟩
  ·have dC:=Z bV;go_wp2_with (first|(go_at_call 95;refine(Bi _ _ _ _).mono ?_;rintro e w' ⟨rfl,rfl⟩))
   go_round
   exact⟨k+1,J,by go_num,by rw[Hs.o,aT.o,dC.o];rfl⟩;exact Jv
 ·go_wp2
  go_ret
  exact⟨AW (DR aT.o J).symm,rfl⟩
def N7{α:Type}(E:TypeId)(R:CP α)(w:World)(xs:List α)(e:Ending)(w':World):Prop:=
 ∃v',e=.returned v'∧Ag E R (Iv w.heap.size w'.heap.size) w' v' xs∧Below w.heap.size w w'
theorem Xx{x:Int}(h:xs[k]? =some x):(xs.take k++List.replicate (xs.length-k) 0).set k x=xs.take (k+1)++List.replicate (xs.length-(k+1)) 0:=by
 obtain⟨hk,hx⟩:=A5.1 h;obtain⟨d,hd⟩:∃d,xs.length-k=d+1:=⟨xs.length-k-1,J⟩;rw[hd,show xs.length-(k+1)=d from by omega,List.set_append_right _ _ (by simp;omega),At,Nat.min_eq_left (Nat.le_of_lt hk),Nat.sub_self,List.replicate_succ,List.set_cons_zero,List.take_succ_eq_append_getElem hk,hx];simp
theorem Sn(v:Value)(xs:U)(w:World)(hv:Au w v xs)(aN:xs.length≤1099511627776):Calls Tryz.prog 70 #[v] w (N7 3 Ap w xs):=by
 obtain⟨a,cap,rfl,ae,-,-,hc⟩:=hv;go_enter Tryz.func70,Tryz.ntmps70;go_wp2_with (first|(at_make;refine EJ _ rfl _ _ 32 rfl 3 Tryz.underlying32 Bg rfl Jq (R:=Ap) 0 ⟨rfl,Cc.small Jq Jq⟩ A8 xs.length rfl rfl aN ?_;intro w1 aB aA aM));have aC:Ag 3 Ap (fun b=>b=w.heap.size) w1 (.slice (some ⟨w.heap.size,0,none⟩) xs.length xs.length) (xs.take 0++List.replicate (xs.length-0) 0):=by simpa using aB
 clear aB;have bX:=Z aM;clear aM;go_loopw [4] (fun i wr=>∃k:Nat,k≤xs.length∧i=.int .i64 k∧Ag 3 Ap (fun b=>b=w.heap.size) wr (.slice (some ⟨w.heap.size,0,none⟩) xs.length xs.length) (xs.take k++List.replicate (xs.length-k) 0)∧Below w.heap.size w wr∧wr.heap.size=w1.heap.size) (fun i _=>xs.length-(intOf i).toNat);exact⟨0,A7 _,rfl,aC,aA,rfl⟩;clear aC aA;obtain⟨k,hk,rfl,aB,aA,aM⟩:=hrel;by_cases aF:k<xs.length
 ·obtain⟨b,off,rfl,hb,bO⟩:=hc J;obtain⟨x,hx⟩:∃x,xs[k]? =some x:=⟨_,A3 aF⟩;obtain⟨u,aW,rfl,hI⟩:=bO k x hx;have Hx:=Z hx;have hl:(xs.take k++List.replicate (xs.length-k) 0).length=xs.length:=by simp;omega
  have ai:=aB.qak (k:=k) (by rw[hl];exact aF) hI;rw[Xx hx]at ai;obtain⟨y,oy,hfd⟩:=aB.ints_at (k:=k) (by rw[hl];exact aF);have ei:=Z ai;have lY:=Z aM;rw[←aA.cell (p:=⟨b,off+k,none⟩) hb]at aW;clear hx hc bO hl ai aB aM;go_wp2;go_roundw;exact⟨k+1,J,by go_num,ei.o,aA.setCell (A2 _) _,by rw[←lY.o];simp[World.setCell]⟩;exact Jv
 ·have aC:=Z aB;have lY:=Z aM;clear aB aM;go_wp2
  go_ret
  refine⟨_,rfl,?_,aA⟩;have h1:=aC.o;have h2:=lY.o;have h3:=bX.o;obtain rfl:k=xs.length:=J;simp at h1;exact(Ab A8).mono (fun b hb=>⟨J,J⟩) h1
def AP(xs:U):Int:=xs.foldl (· + ·) 0
theorem GG{x:Int}(h:xs[k]? =some x):AP (xs.take (k+1))=AP (xs.take k)+x:=by
 obtain⟨hk,hx⟩:=A5.1 h;rw[List.take_succ_eq_append_getElem hk,hx];simp[AP]
theorem PT(hk:xs.length≤k):AP (xs.take k)=AP xs:=by rw[A9 hk]
def IP(xs:U):Prop:=xs.length≤1048576∧∀x∈xs,-1048576≤x∧x≤1048576
theorem NL(h:IP xs):∀k,k≤xs.length→-(1048576*(k:Int))≤AP (xs.take k)∧AP (xs.take k)≤1048576*(k:Int):=by
 intro k;induction k with
 |zero=>intro _;simp[AP]
 |succ k ih=>
  intro hk;have h1:=ih J;have hx:xs[k]? =some xs[k]:=A3 J;rw[GG hx];have:=h.2 _ (A4 hx)
  push_cast
  omega
theorem Gm(v:Value)(xs:U)(w:World)(hv:Au w v xs)(hs:IP xs):Calls Tryz.prog 87 #[v] w fun e w'=>e=.returned (.int .i64 (AP xs))∧w=w':=by
 obtain⟨a,cap,rfl,ae,-,-,hc⟩:=hv;have cJ:=hs.1;go_enter Tryz.func87,Tryz.ntmps87;go_wp2;go_loop [3,8] (fun n i=>∃k:Nat,k≤xs.length∧i=.int .i64 k∧n=.int .i64 (AP (xs.take k))) (fun _ i=>xs.length-(intOf i).toNat);exact⟨0,A7 _,rfl,rfl⟩;obtain⟨k,hk,rfl,rfl⟩:=hrel;obtain⟨t,ht⟩:∃t,t=AP (xs.take k):=⟨_,rfl⟩;have hb:=NL hs k hk;rw[←ht]at hb⊢;have Ht:=Z ht;obtain⟨dK,af⟩:=hb;have hk20:k≤1048576:=J;by_cases aF:k<xs.length
 ·obtain⟨b,off,rfl,-,bO⟩:=hc J;obtain⟨x,hx⟩:∃x,xs[k]? =some x:=⟨_,A3 aF⟩;obtain⟨u,aW,rfl,-⟩:=bO k x hx;obtain⟨bj,dZ⟩:=hs.2 x (A4 hx);have Hs:=Z (GG hx);clear hx hc bO ht;go_wp2
  go_round
  exact⟨k+1,J,by go_num,by rw[Hs.o,←Ht.o]⟩;exact Jv
 ·clear ht;go_wp2
  go_ret
  exact⟨CY (by rw[Ht.o,PT J]),rfl⟩
theorem GA(v:Value)(xs:U)(w:World)(hv:Au w v xs)(hs:IP xs):Calls Tryz.prog 256 #[v] w fun e w'=>e=.returned (.int .i64 (AP xs))∧w=w':=by
 obtain⟨a,cap,rfl,ae,-,-,hc⟩:=hv;have cJ:=hs.1;go_enter Tryz.func256,Tryz.ntmps256;go_wp2;go_loop [3,8] (fun n i=>∃k:Nat,k≤xs.length∧i=.int .i64 k∧n=.int .i64 (AP (xs.take k))) (fun _ i=>xs.length-(intOf i).toNat);exact⟨0,A7 _,rfl,rfl⟩;obtain⟨k,hk,rfl,rfl⟩:=hrel;obtain⟨t,ht⟩:∃t,t=AP (xs.take k):=⟨_,rfl⟩;have hb:=NL hs k hk;rw[←ht]at hb⊢;have Ht:=Z ht;obtain⟨dK,af⟩:=hb;have hk20:k≤1048576:=J;by_cases aF:k<xs.length
 ·obtain⟨b,off,rfl,-,bO⟩:=hc J;obtain⟨x,hx⟩:∃x,xs[k]? =some x:=⟨_,A3 aF⟩;obtain⟨u,aW,rfl,-⟩:=bO k x hx;obtain⟨bj,dZ⟩:=hs.2 x (A4 hx);have Hs:=Z (GG hx);clear hx hc bO ht;go_wp2
  go_round
  exact⟨k+1,J,by go_num,by rw[Hs.o,←Ht.o]⟩;exact Jv
 ·clear ht;go_wp2
  go_ret
  exact⟨CY (by rw[Ht.o,PT J]),rfl⟩
theorem F8{xs ys:List α}(h:xs.take k=ys.take k)(hx:xs[k]? =some x)(hy:ys[k]? =some x):xs.take (k+1)=ys.take (k+1):=by
 obtain⟨h1,h2⟩:=A5.1 hx;obtain⟨h3,h4⟩:=A5.1 hy;rw[List.take_succ_eq_append_getElem h1,List.take_succ_eq_append_getElem h3,h,h2,h4]
theorem Pk(v v2:Value)(xs ys:U)(w:World)(hv:Au w v xs)(aS:Au w v2 ys):Calls Tryz.prog 72 #[v,v2] w fun e w'=>e=.returned (.bool (decide (xs=ys)))∧∃n,w'=w.drewN n:=by
 obtain⟨a,cap,rfl,ae,cJ,-,hc⟩:=hv;obtain⟨a2,cap2,rfl,dc,hle2,-,cM⟩:=aS;by_cases hl:xs.length=ys.length
 ·have eJ:xs.length≤ys.length:=J;have fl:ys.length≤xs.length:=J;have Hl:=Z hl;clear hl;go_enter Tryz.func72,Tryz.ntmps72;go_wp2;go_loopw [5] (fun i wr=>∃k:Nat,k≤xs.length∧i=.int .i64 k∧xs.take k=ys.take k∧∃n,wr=w.drewN n) (fun i _=>xs.length-(intOf i).toNat);exact⟨0,A7 _,rfl,rfl,0,rfl⟩;obtain⟨k,hk,rfl,cu,n,rfl⟩:=hrel;have gC:=Z cu;clear cu;by_cases aF:k<xs.length
  ·obtain⟨b,off,rfl,hb,bO⟩:=hc J;obtain⟨x,hx⟩:∃x,xs[k]? =some x:=⟨_,A3 aF⟩;obtain⟨u,aW,rfl,-⟩:=bO k x hx;obtain⟨b2,off2,rfl,af,hc2'⟩:=cM J;obtain⟨y,hy⟩:∃y,ys[k]? =some y:=⟨_,A3 J⟩;obtain⟨u2,dw,rfl,-⟩:=hc2' k y hy;have Hx:=Z hx;have Hy:=Z hy;clear hx hc bO hy cM hc2';by_cases cK:x=y
   ·subst cK;go_wp2;go_quiet (fail);go_wp2;go_roundw;exact⟨k+1,J,by go_num,F8 gC.o Hx.o Hy.o,_,rfl⟩;exact Jv
   ·have aK:(x==y)=false:=by simpa using cK
    have r7:=Z cK;clear cK;go_wp2;go_quiet (fail);go_wp2
    go_ret
    exact⟨AW (Eq.symm (by simp;intro h;have h1:=Hx.o;rw[h,Hy.o]at h1;exact r7.o (Option.some.inj h1).symm)),A2y _ _ _⟩
  ·go_wp2
   go_ret
   exact⟨AW (Eq.symm (by have h:=gC.o;have hl:=Hl.o;rw[A9 J,A9 J]at h;simp[h])),n,rfl⟩
 ·have aK:decide (xs=ys)=false:=by simp;intro h;exact hl (by rw[h])
  rw[aK];clear aK;have vT:((xs.length:Int)==(ys.length:Int))=false:=by simp;omega
  go_enter Tryz.func72,Tryz.ntmps72;go_wp2
  go_ret
  exact⟨rfl,0,rfl⟩
def Gd(k:Int)(n:Nat):U:=(List.range n).map fun i:Nat=>k+(i:Int)
theorem MN(k:Int)(n:Nat):(Gd k n).length=n:=by simp[Gd]
theorem A2p{k:Int}{n:Nat}(h:j<n):(Gd k n)[j]? =some (k+(j:Int)):=by simp[Gd,h]
theorem A18{k:Int}(h:j<xs.length):(Gd k j++xs.drop j).set j (k+(j:Int))=Gd k (j+1)++xs.drop (j+1):=by
 rw[List.set_append_right _ _ (by rw[MN];exact A2 _),MN,Nat.sub_self,List.drop_eq_getElem_cons h,List.set_cons_zero];simp[Gd,List.range_succ]
theorem NJ(v:Value)(xs:U)(k:Int)(S:Bk)(w:World)(hv:Ag 3 Ap S w v xs)(ap:0≤k)(fH:k≤1099511627776)(aN:xs.length≤1099511627776):
  Calls Tryz.prog 74 #[v,.int .i64 k] w fun e w'=>e=.returned (.int .i64 (k+xs.length))∧Ag 3 Ap S w' v (Gd k xs.length)∧AO S w w'∧w.heap.size=w'.heap.size:=by
 rcases hv.inv with⟨rfl,rfl⟩|⟨g,cap,rfl,hg,ae,iG,-⟩
 ·go_enter Tryz.func74,Tryz.ntmps74;go_wp2;refine wp_loop_rounds 1 ?_;rw[rounds_succ];go_wp2
  go_ret
  exact⟨CY Jj,Ag.nil _ _ _ _,AO.refl _ _,rfl⟩
 ·go_enter Tryz.func74,Tryz.ntmps74;go_wp2;have Hv:Ag 3 Ap S w (.slice (some ⟨g,0,none⟩) xs.length cap) (Gd k 0++xs.drop 0):=hv;clear hv;go_loopw [1,5] (fun n i wr=>∃j:Nat,j≤xs.length∧i=.int .i64 j∧n=.int .i64 (k+j)∧Ag 3 Ap S wr (.slice (some ⟨g,0,none⟩) xs.length cap) (Gd k j++xs.drop j)∧AO S w wr∧w.heap.size=wr.heap.size) (fun _ i _=>xs.length-(intOf i).toNat);exact⟨0,A7 _,rfl,Jj,Hv,AO.refl _ _,rfl⟩;clear Hv;obtain⟨j,hj,rfl,rfl,aB,honly,aM⟩:=hrel;have bX:=Z aM;clear aM;by_cases aF:j<xs.length
  ·have hl:(Gd k j++xs.drop j).length=xs.length:=by simp[MN];omega
   have ai:=aB.qak (k:=j) (c:=k+(j:Int)) (by rw[hl];exact aF) (Cc.small J J);rw[A18 aF]at ai;obtain⟨y,oy,hfd⟩:=aB.ints_at (k:=j) (by rw[hl];exact aF);have ei:=Z ai;clear ai aB hl;go_wp2;go_roundw;exact⟨j+1,J,by go_num,by congr 1;omega,ei.o,honly.setCell (.inl hg) _,by rw[bX.o];simp[World.setCell]⟩;exact Jv
  ·have aC:=Z aB;clear aB;go_wp2
   go_ret
   obtain rfl:j=xs.length:=J;exact⟨rfl,by have h:=aC.o;simpa using h,honly,bX.o⟩
theorem Ny(v:Value)(n:Nat)(k:Int)(w:World)(hv:Au w v (Gd k n))(ap:0≤k)(fH:k≤1099511627776)(aN:n≤1099511627776):
  Calls Tryz.prog 76 #[v,.int .i64 k] w fun e w'=>e=.returned (.int .i64 (k+n))∧w=w':=by
 obtain⟨a,cap,rfl,ae,cJ,-,hc⟩:=hv;rw[MN]at ae cJ hc⊢;go_enter Tryz.func76,Tryz.ntmps76;go_wp2;go_loop [1,5] (fun m i=>∃j:Nat,j≤n∧i=.int .i64 j∧m=.int .i64 (k+j)) (fun _ i=>n-(intOf i).toNat);exact⟨0,A7 _,rfl,Jj⟩;obtain⟨j,hj,rfl,rfl⟩:=hrel;by_cases aF:j<n
 ·obtain⟨b,off,rfl,-,bO⟩:=hc J;obtain⟨u,aW,rfl,-⟩:=bO j _ (A2p aF);clear hc bO;go_wp2
  go_round
  exact⟨j+1,J,by go_num,by congr 1;omega⟩;exact Jv
 ·go_wp2
  go_ret
  exact⟨CY J,rfl⟩
def DP(rows cols:U):Bool:=C1 1 4 rows.length&&C1 1 4 cols.length&&rows.all (C1 0 cols.length)&&cols.all (C1 0 rows.length)
theorem FP(v v2:Value)(xs ys:U)(w:World)(hv:Au w v xs)(aS:Au w v2 ys):Calls Tryz.prog 173 #[v,v2] w fun e w'=>e=.returned (.bool (DP xs ys))∧w=w':=by
 obtain⟨a,cap,rfl,ae,cJ,-,-⟩:=id hv;obtain⟨a2,cap2,rfl,dc,hle2,-,-⟩:=id aS;go_enter Tryz.func173,Tryz.ntmps173;go_wp2_with (first|(go_at_call 95;refine(Bi _ _ _ _).mono ?_;rintro e w' ⟨rfl,rfl⟩)|(go_at_call 157;refine(C8 _ _ _ _ _ (by assumption)).mono ?_;rintro e w' ⟨rfl,rfl⟩))
 all_goals(go_ret;exact⟨AW (by simp[DP, *]),rfl⟩)
theorem FZ(v v2:Value)(xs ys:U)(w:World)(hv:Au w v xs)(aS:Au w v2 ys):Calls Tryz.prog 262 #[v,v2] w fun e w'=>e=.returned (.bool (DP xs ys))∧w=w':=by
 obtain⟨a,cap,rfl,ae,cJ,-,hc⟩:=hv;obtain⟨a2,cap2,rfl,dc,hle2,-,cM⟩:=aS;cases hin1:C1 1 4 xs.length
 ·go_enter Tryz.func262,Tryz.ntmps262;go_wp2_with (first|(go_at_call 201;refine(Bd _ _ _ _).mono ?_;rintro e w' ⟨rfl,rfl⟩))
  go_ret
  exact⟨AW (by simp[DP, *]),rfl⟩
 cases hin2:C1 1 4 ys.length
 ·go_enter Tryz.func262,Tryz.ntmps262;go_wp2_with (first|(go_at_call 201;refine(Bd _ _ _ _).mono ?_;rintro e w' ⟨rfl,rfl⟩))
  go_ret
  exact⟨AW (by simp[DP, *]),rfl⟩
 go_enter Tryz.func262,Tryz.ntmps262;go_wp2_with (first|(go_at_call 201;refine(Bd _ _ _ _).mono ?_;rintro e w' ⟨rfl,rfl⟩));have Hin1:=Z hin1;have Hin2:=Z hin2;clear hin1 hin2;go_loop [6,21] (fun _ i=>∃k:Nat,k≤xs.length∧i=.int .i64 k∧(xs.take k).all (C1 0 ys.length)=true) (fun _ i=>xs.length-(intOf i).toNat);exact⟨0,A7 _,rfl,rfl⟩;obtain⟨k,hk,rfl,aQ⟩:=hrel;have aT:=Z aQ;clear aQ;by_cases aF:k<xs.length
 ·obtain⟨b,off,rfl,-,bO⟩:=hc J;obtain⟨x,hx⟩:∃x,xs[k]? =some x:=⟨_,A3 aF⟩;obtain⟨u,aW,rfl,-⟩:=bO k x hx;have Hs:=Z (BX (C1 0 ys.length) hx);have Hx:=Z hx;clear hx hc bO;cases bV:C1 0 ys.length x
  ·have dC:=Z bV;go_wp2_with (first|(go_at_call 201;refine(Bd _ _ _ _).mono ?_;rintro e w' ⟨rfl,rfl⟩))
   go_ret
   exact⟨AW (by simp[DP,BM _ Hx.o dC.o]),rfl⟩
  ·have dC:=Z bV;go_wp2_with (first|(go_at_call 201;refine(Bd _ _ _ _).mono ?_;rintro e w' ⟨rfl,rfl⟩))
   go_round
   exact⟨k+1,J,by go_num,by rw[Hs.o,aT.o,dC.o];rfl⟩;exact Jv
 ·have wK:=Z (DR aT.o J);clear aT;go_wp2_with fail;clear hk aF;go_loop [8,33] (fun _ i=>∃k:Nat,k≤ys.length∧i=.int .i64 k∧(ys.take k).all (C1 0 xs.length)=true) (fun _ i=>ys.length-(intOf i).toNat);exact⟨0,A7 _,rfl,rfl⟩;obtain⟨k,hk,rfl,aQ⟩:=hrel;have aT:=Z aQ;clear aQ;by_cases aF:k<ys.length
  ·obtain⟨b,off,rfl,-,bO⟩:=cM J;obtain⟨x,hx⟩:∃x,ys[k]? =some x:=⟨_,A3 aF⟩;obtain⟨u,aW,rfl,-⟩:=bO k x hx;have Hs:=Z (BX (C1 0 xs.length) hx);have Hx:=Z hx;clear hx cM bO;cases bV:C1 0 xs.length x
   ·have dC:=Z bV;go_wp2_with (first|(go_at_call 201;refine(Bd _ _ _ _).mono ?_;rintro e w' ⟨rfl,rfl⟩))
    go_ret
    exact⟨AW (by simp[DP,BM _ Hx.o dC.o]),rfl⟩
   ·have dC:=Z bV;go_wp2_with (first|(go_at_call 201;refine(Bd _ _ _ _).mono ?_;rintro e w' ⟨rfl,rfl⟩))
    go_round
    exact⟨k+1,J,by go_num,by rw[Hs.o,aT.o,dC.o];rfl⟩;exact Jv
  ·go_wp2
   go_ret
   exact⟨AW (by simp[DP,Hin1.o,Hin2.o,wK.o,DR aT.o J]),rfl⟩
end Go.Proofs.YthmocomfjgmjoaaGreatDoor
namespace Go.Proofs.YthmocomfjgmjoaaGreatDoor
variable {k:Nat}{xs:U}
def E4(s:U×Nat):U:=if 0<s.2 then s.1++[(s.2:Int)]else s.1
def A35(s:U×Nat)(x:Int):U×Nat:=if x=1 then(s.1,s.2+1)else(E4 s,0)
def CB(xs:U):U×Nat:=xs.foldl A35 ([],0)
def C3(xs:U):U:=E4 (CB xs)
theorem Ji{x:Int}(h:xs[k]? =some x):CB (xs.take (k+1))=if x=1 then((CB (xs.take k)).1,(CB (xs.take k)).2+1)else(E4 (CB (xs.take k)),0):=by
 obtain⟨hk,hx⟩:=A5.1 h;rw[List.take_succ_eq_append_getElem hk,hx];unfold CB;rw[List.foldl_append];rfl
theorem A04(hk:k≤xs.length):0<(CB (xs.take k)).2↔0<k∧xs[k-1]? =some 1:=by
 cases k with
 |zero=>simp[CB]
 |succ k=>
  have hx:xs[k]? =some xs[k]:=A3 J;rw[Ji hx];simp only[Nat.add_sub_cancel,hx]
  split<;>simp_all
theorem NV:∀k,k≤xs.length→(CB (xs.take k)).1.length+(CB (xs.take k)).2≤k:=by
 intro k;induction k with
 |zero=>intro _;simp[CB]
 |succ k ih=>
  intro hk;have h1:=ih J;have hx:xs[k]? =some xs[k]:=A3 J;rw[Ji hx]
  split
  ·simp;omega
  ·simp only[E4]
   split
   ·simp;omega
   ·simp;omega
theorem O0(xs:U):(C3 xs).length≤xs.length:=by
 have h:=NV (xs:=xs) xs.length (A2 _);rw[List.take_length]at h;unfold C3 E4
 split
 ·simp;omega
 ·omega
end Go.Proofs.YthmocomfjgmjoaaGreatDoor
namespace Go.Proofs.YthmocomfjgmjoaaGreatDoor
open Go.RowKit
variable {E:Nat}{S:Bk}{a b c:Value}{g m:I}{n:Int}{r:U}{w w':World}
theorem WG(v:Value)(xs:U)(w:World)(hv:Au w v xs)(aN:xs.length≤1048576):Calls Tryz.prog 175 #[v] w (N7 3 Ap w (C3 xs)):=by
 obtain⟨a,cap,rfl,ae,-,-,hc⟩:=hv;go_enter Tryz.func175,Tryz.ntmps175;go_wp2;go_loopw [3,8] (fun v i wr=>∃k:Nat,k≤xs.length∧i=.int .i64 k∧Ag 3 Ap (Iv w.heap.size wr.heap.size) wr v (E4 (CB (xs.take k)))∧Below w.heap.size w wr) (fun _ i _=>xs.length-(intOf i).toNat);exact⟨0,A7 _,rfl,Ag.nil _ _ _ _,A6 _ _⟩;obtain⟨k,hk,rfl,aB,aA⟩:=hrel;have bD:=aA.size;by_cases aF:k<xs.length
 ·obtain⟨b,off,rfl,hb,bO⟩:=hc J;obtain⟨x,hx⟩:∃x,xs[k]? =some x:=⟨_,A3 aF⟩;obtain⟨u,aW,rfl,hI⟩:=bO k x hx;rw[←aA.cell (p:=⟨b,off+k,none⟩) hb]at aW;have bB:=Ji hx;have aZ:=A04 hk;have qC:=NV k hk;by_cases bj:x=1
  ·subst bj;by_cases hp:0<(CB (xs.take k)).2
   ·obtain⟨ap,kj⟩:=aZ.1 hp;obtain⟨u2,hcp,rfl,-⟩:=bO (k-1) 1 kj;rw[←aA.cell (p:=⟨b,off+(k-1),none⟩) hb]at hcp;obtain⟨o,ho⟩:∃o,o=(CB (xs.take k)).1:=⟨_,rfl⟩;obtain⟨n,hn⟩:∃n,n=(CB (xs.take k)).2:=⟨_,rfl⟩;simp only[if_true,←ho,←hn]at bB;rw[←hn]at hp;simp only[E4,←ho,←hn,if_pos hp]at aB;rw[←ho,←hn]at qC;obtain⟨g,cp,rfl,hg,hcp2,-,-⟩:=aB.qac Jj;obtain⟨aH,hfree,-⟩:=aB.qaf (k:=o.length) (x:=(n:Int)) Jj;have ai:=aB.qak (k:=o.length) (c:=(n:Int)+1) Jj (Cc.small J J);rw[List.set_append_right _ _ (A2 _),Nat.sub_self,List.set_cons_zero]at ai;simp only[Ad,An,List.length_nil,Nat.zero_add]at ai hcp2⊢;have ei:=Z ai;have aG:=Z bB;have hge:=hg.1;clear hc bO hx kj aZ ho hn aB ai bB;go_wp2;go_roundw;exact⟨k+1,J,by go_num,by rw[aG.o,As];exact ei.o,aA.setCell hge _⟩;exact Jv
   ·have dS:(CB (xs.take k)).2=0:=J;have aE:E4 (CB (xs.take k))=(CB (xs.take k)).1:=by simp[E4,dS]
    rw[aE]at aB;rw[if_pos rfl,dS]at bB;have aG:=Z bB;have aC:=Z aB;have nJ:(CB (xs.take k)).1.length<1099511627776:=J;have kj:k≤0∨(0<k∧∃y,¬y=1∧wr.cell? ⟨b,off+(k-1),none⟩=some (.int .i64 y)):=by
     by_cases ap:k=0
     ·exact .inl J
     ·refine .inr ⟨J,?_⟩;have h1:xs[k-1]? =some xs[k-1]:=A3 J;obtain⟨u2,hcp,rfl,-⟩:=bO (k-1) _ h1;refine⟨xs[k-1],fun h=>hp (aZ.2 ⟨J,by rw[h1,h]⟩),?_⟩;rw[aA.cell (p:=⟨b,off+(k-1),none⟩) hb,hcp]
    clear hc bO hx aZ aB bB dS aE hp qC;rcases kj with ap|⟨ap,y,hy,hcp⟩
    all_goals
     go_wp2_with (first|(at_builtin;(refine AH rfl _ _ 32 rfl A8 3 Tryz.underlying32 Bg rfl Jq w.heap.size wr.heap.size bD (A2 _) rfl rfl (by exact aC.o) ⟨rfl,Cc.small Jq Jq⟩ nJ ?_);intro v' w' bI hbel' _));have af:=aA.trans hbel';have fB:=Z bI;clear bI hbel';go_wp2;go_roundw;exact⟨k+1,J,by go_num,by rw[aG.o];exact fB.o,af⟩;exact Jv
  ·have aG:=Z bB;have aC:=Z aB;clear hc bO hx aZ bB aB;go_wp2;go_roundw;exact⟨k+1,J,by go_num,by rw[aG.o,if_neg bj];exact aC.o,aA⟩;exact Jv
 ·have aC:=Z aB;clear aB;go_wp2
  go_ret
  refine⟨_,rfl,?_,aA⟩;have h1:=aC.o;rw[A9 J]at h1;exact h1
theorem WO(v:Value)(xs:U)(w:World)(hv:Au w v xs)(aN:xs.length≤1048576):Calls Tryz.prog 265 #[v] w (N7 3 Ap w (C3 xs)):=by
 obtain⟨a,cap,rfl,ae,-,-,hc⟩:=hv;go_enter Tryz.func265,Tryz.ntmps265;go_wp2;go_loopw [3,4,10] (fun v n i wr=>∃k:Nat,k≤xs.length∧i=.int .i64 k∧n=.int .i64 (CB (xs.take k)).2∧Ag 3 Ap (Iv w.heap.size wr.heap.size) wr v (CB (xs.take k)).1∧Below w.heap.size w wr) (fun _ _ i _=>xs.length-(intOf i).toNat);exact⟨0,A7 _,rfl,rfl,BK _ _ _ A8,Below.qab _ _⟩;obtain⟨k,hk,rfl,rfl,aB,aA⟩:=hrel;have bD:=aA.size;have qC:=NV k hk;by_cases aF:k<xs.length
 ·obtain⟨b,off,rfl,hb,bO⟩:=hc J;obtain⟨x,hx⟩:∃x,xs[k]? =some x:=⟨_,A3 aF⟩;obtain⟨u,aW,rfl,hI⟩:=bO k x hx;rw[←aA.cell (p:=⟨b,off+k,none⟩) hb]at aW;have bB:=Ji hx;clear hc bO hx;by_cases bj:x=1
  ·subst bj;rw[if_pos rfl]at bB;have aG:=Z bB;have aC:=Z aB;clear bB aB;go_wp2;go_roundw;exact⟨k+1,J,by go_num,by rw[aG.o];rfl,by rw[aG.o];exact aC.o,aA⟩;exact Jv
  ·rw[if_neg bj]at bB;have aG:=Z bB;have aC:=Z aB;clear bB aB;by_cases hp:0<(CB (xs.take k)).2
   ·have nJ:(CB (xs.take k)).1.length<1099511627776:=J;have aU:=Z (show E4 (CB (xs.take k))=(CB (xs.take k)).1++[((CB (xs.take k)).2:Int)]from by simp[E4,hp]);go_wp2_with (first|(at_builtin;refine AH rfl _ _ 32 rfl A8 3 Tryz.underlying32 Bg rfl Jq w.heap.size wr.heap.size bD (A2 _) rfl rfl (by exact aC.o) ⟨rfl,Cc.small J J⟩ nJ ?_;intro v' w' bI hbel' _));have af:=aA.trans hbel';have fB:=Z bI;clear bI hbel';go_wp2;go_roundw;exact⟨k+1,J,by go_num,by rw[aG.o];rfl,by rw[aG.o,aU.o];exact fB.o,af⟩;exact Jv
   ·have aU:=Z (show E4 (CB (xs.take k))=(CB (xs.take k)).1 from by simp[E4,hp]);go_wp2;go_roundw;exact⟨k+1,J,by go_num,by rw[aG.o];rfl,by rw[aG.o,aU.o];exact aC.o,aA⟩;exact Jv
 ·have aC:=Z aB;clear aB;have wL:=Z (show C3 xs=E4 (CB (xs.take k))from by rw[A9 J];rfl);by_cases hp:0<(CB (xs.take k)).2
  ·have nJ:(CB (xs.take k)).1.length<1099511627776:=J;go_wp2_with (first|(at_builtin;refine AH rfl _ _ 32 rfl A8 3 Tryz.underlying32 Bg rfl Jq w.heap.size wr.heap.size bD (A2 _) rfl rfl (by exact aC.o) ⟨rfl,Cc.small J J⟩ nJ ?_;intro v' w' bI hbel' _));have fB:=Z bI;have af:=aA.trans hbel';clear bI hbel';go_wp2
   go_ret
   refine⟨_,rfl,?_,af⟩;rw[wL.o];have h1:=fB.o;simpa[E4,hp]using h1
  ·go_wp2
   go_ret
   refine⟨_,rfl,?_,aA⟩;rw[wL.o];have h1:=aC.o;simpa[E4,hp]using h1
theorem Iu{xs:U}{m:Int}(h:xs.all (C1 0 m)=true)(hm:m≤1048576)(hl:xs.length≤1048576):IP xs:=by
 refine⟨hl,fun x hx=>?_⟩;have h2:=Ar.1 h _ hx;rw[Bz]at h2;omega
theorem EI:(Tryz.prog.info? 32).map (fun i=>(i.zero,i.size,i.bytes))=some (some (.slice none 0 0),1,24):=by kernel_rfl
theorem A1h(v v2:Value)(xs ys:I)(w:World)(hv:AI w v xs)(aS:AI w v2 ys):Calls Tryz.prog 71 #[v,v2] w fun e w'=>e=.returned (.bool (decide (xs=ys)))∧∃n,w'=w.drewN n:=by
 obtain⟨a,cap,rfl,ae,cJ,-,hc⟩:=hv;obtain⟨a2,cap2,rfl,dc,hle2,-,cM⟩:=aS;by_cases hl:xs.length=ys.length
 ·have eJ:xs.length≤ys.length:=J;have fl:ys.length≤xs.length:=J;have Hl:=Z hl;clear hl;go_enter Tryz.func71,Tryz.ntmps71;go_wp2;go_loopw [5] (fun i wr=>∃k:Nat,k≤xs.length∧i=.int .i64 k∧xs.take k=ys.take k∧∃n,wr=w.drewN n) (fun i _=>xs.length-(intOf i).toNat);exact⟨0,A7 _,rfl,rfl,0,rfl⟩;obtain⟨k,hk,rfl,cu,n,hw⟩:=hrel;have gC:=Z cu;clear cu;by_cases aF:k<xs.length
  ·obtain⟨b,off,rfl,hb,bO⟩:=hc J;obtain⟨x,hx⟩:∃x,xs[k]? =some x:=⟨_,A3 aF⟩;obtain⟨u,aW,hu⟩:=bO k x hx;obtain⟨b2,off2,rfl,af,hc2'⟩:=cM J;obtain⟨y,hy⟩:∃y,ys[k]? =some y:=⟨_,A3 J⟩;obtain⟨u2,dw,eO⟩:=hc2' k y hy;have bW:k<ys.length:=J;have Hx:=Z hx;have Hy:=Z hy;have hu:Au wr u x:=by rw[hw];exact hu
   have eO:Au wr u2 y:=by rw[hw];exact eO
   have aW:wr.cell? ⟨b,off+k,none⟩=some u:=by rw[hw];exact aW
   have dw:wr.cell? ⟨b2,off2+k,none⟩=some u2:=by rw[hw];exact dw
   have Hw:=Z hw;clear hx hc bO hy cM hc2' hw;by_cases cK:x=y
   ·subst cK;have hd:∀m,Calls Tryz.prog 72 #[u,u2] (wr.drewN m) fun e w''=>e=.returned (.bool true)∧∃q,w''=(wr.drewN m).drewN q:=fun m=>by
     have:=Pk u u2 x x (wr.drewN m) hu eO;simpa only[decide_true]using this
    have Hd:=Z hd;clear hd hu eO;go_wp2;go_quiet ((go_at_call 72;exact Calls.quiet_of (Hd.o _)));go_wp2;go_roundw;exact⟨k+1,J,by go_num,F8 gC.o Hx.o Hy.o,A2r Hw.o _⟩;exact Jv
   ·have hd:∀m,Calls Tryz.prog 72 #[u,u2] (wr.drewN m) fun e w''=>e=.returned (.bool false)∧∃q,w''=(wr.drewN m).drewN q:=fun m=>by
     have:=Pk u u2 x y (wr.drewN m) hu eO;simpa only[cK,decide_false]using this
    have Hd:=Z hd;clear hd hu eO;have r7:=Z cK;clear cK;go_wp2;go_quiet ((go_at_call 72;exact Calls.quiet_of (Hd.o _)));go_wp2
    go_ret
    exact⟨AW (Eq.symm (by simp;intro h;have h1:=Hx.o;rw[h,Hy.o]at h1;exact r7.o (Option.some.inj h1).symm)),A2r Hw.o _⟩
  ·have Hw:=Z hw;clear hw;go_wp2
   go_ret
   exact⟨AW (Eq.symm (by have h:=gC.o;have hl:=Hl.o;rw[A9 J,A9 J]at h;simp[h])),n,Hw.o⟩
 ·have aK:decide (xs=ys)=false:=by simp;intro h;exact hl (by rw[h])
  rw[aK];clear aK;have vT:((xs.length:Int)==(ys.length:Int))=false:=by simp;omega
  go_enter Tryz.func71,Tryz.ntmps71;go_wp2
  go_ret
  exact⟨rfl,0,rfl⟩
def cells(g:I):Nat:=(g.map List.length).sum
def FG:Int→I→I
 |_,[]=>[]
 |k,r::g=>Gd k r.length::FG (k+r.length) g
theorem GO(g:I):∀k,(FG k g).length=g.length:=by
 induction g with
 |nil=>intro k;rfl
 |cons r g ih=>intro k;simp[FG,ih]
theorem L2{k:Nat}(h:g[k]? =some r):cells (g.take (k+1))=cells (g.take k)+r.length:=by
 obtain⟨hk,hx⟩:=A5.1 h;rw[List.take_succ_eq_append_getElem hk,hx];simp[cells]
theorem DY(g:I)(k:Nat):cells (g.take k)≤cells g:=by
 have:cells g=cells (g.take k)+cells (g.drop k):=by
  have h:cells (g.take k++g.drop k)=cells (g.take k)+cells (g.drop k):=by unfold cells;rw[List.map_append,List.sum_append]
  rwa[List.take_append_drop]at h
 omega
theorem V0:∀{k:Int}{j:Nat}{r:U},g[j]? =some r→(FG k g)[j]? =some (Gd (k+cells (g.take j)) r.length):=by
 induction g with
 |nil=>intro k j r h;simp at h
 |cons a g ih=>
  intro k j r h;cases j with
  |zero=>simp at h;subst h;simp[FG,cells]
  |succ j=>
   simp at h;simp only[FG,AB];rw[ih h]
   congr 2
   simp[cells];omega
theorem WP(v:Value)(xs:I)(k:Int)(S:Bk)(w:World)(hv:Ag 32 (Ag 3 Ap) S w v xs)(hS:∀b,S b→b<w.heap.size)(ap:0≤k)(fH:k≤1048576)(aN:xs.length≤1048576)(bJ:cells xs≤1048576):
  Calls Tryz.prog 73 #[v,.int .i64 k] w fun e w'=>e=.returned (.int .i64 (k+cells xs))∧Ag 32 (Ag 3 Ap) S w' v (FG k xs)∧AO S w w'∧w.heap.size=w'.heap.size:=by
 rcases hv.inv with⟨rfl,rfl⟩|⟨g,cap,rfl,hg,ae,iG,-⟩
 ·go_enter Tryz.func73,Tryz.ntmps73;go_wp2;refine wp_loop_rounds 1 ?_;rw[rounds_succ];go_wp2
  go_ret
  exact⟨CY (by simp[cells]),Ag.nil _ _ _ _,AO.refl _ _,rfl⟩
 ·go_enter Tryz.func73,Tryz.ntmps73;go_wp2;have Hv:Ag 32 (Ag 3 Ap) S w (.slice (some ⟨g,0,none⟩) xs.length cap) ((FG k xs).take 0++xs.drop 0):=by simpa using hv
  clear hv;go_loopw [1,5] (fun n i wr=>∃j:Nat,j≤xs.length∧i=.int .i64 j∧n=.int .i64 (k+cells (xs.take j))∧Ag 32 (Ag 3 Ap) S wr (.slice (some ⟨g,0,none⟩) xs.length cap) ((FG k xs).take j++xs.drop j)∧AO S w wr∧w.heap.size=wr.heap.size) (fun _ i _=>xs.length-(intOf i).toNat);exact⟨0,A7 _,rfl,by simp[cells],Hv,AO.refl _ _,rfl⟩;clear Hv;obtain⟨j,hj,rfl,rfl,aB,honly,aM⟩:=hrel;have zO:=DY xs j;by_cases aF:j<xs.length
  ·obtain⟨r,hr⟩:∃r,xs[j]? =some r:=⟨_,A3 aF⟩;have bA:((FG k xs).take j++xs.drop j)[j]? =some r:=by
    rw[List.getElem?_append_right (by rw[At,GO];omega),At,GO,Nat.min_eq_left J,Nat.sub_self,List.getElem?_drop,AF,hr]
   have nK:=L2 hr;have hcj2:=DY xs (j+1);have aj:r.length≤1048576:=J;obtain⟨-,-,-,-,T,u,aH,hu,hT,-,hback⟩:=aB.qal (Ab A8) bA;have bH:((FG k xs).take j++xs.drop j).set j (Gd (k+cells (xs.take j)) r.length)=(FG k xs).take (j+1)++xs.drop (j+1):=by
    rw[List.set_append_right _ _ (by rw[At,GO];omega),At,GO,Nat.min_eq_left J,Nat.sub_self,List.drop_eq_getElem_cons aF,List.set_cons_zero];obtain⟨h1,h2⟩:=A5.1 (V0 (k:=k) hr);rw[List.take_succ_eq_append_getElem h1,h2];simp
   have pp:=NJ u r (k+cells (xs.take j)) T wr hu J J J;have wM:=Z pp;have mf:=Z hback;have bq:=Z bH;have sd:=Z nK;have bX:=Z aM;have Hu:=Z hu;have HT:=Z hT;clear aB bA hr nK hback bH pp aM hu hT;go_wp2_with fail;refine wM.o.mono ?_;rintro e w1 ⟨rfl,aw,honly1,cn⟩;have fN:=Z cn;clear cn;go_wp2;go_roundw
   case rel=>
    refine⟨j+1,J,by go_num,?_,?_,?_,by rw[bX.o,fN.o]⟩
    ·rw[sd.o];congr 1;omega
    ·rw[←bq.o];exact mf.o w1 _ (fun b hb jn=>honly1.block b (by have:=hS b hb;rw[←bX.o];exact this) jn) aw
    ·exact honly.qai (honly1.mono fun b hb _=>.inl (HT.o b hb).1)
   case measure=>exact Jv
  ·have aC:=Z aB;have bX:=Z aM;clear aB aM;go_wp2
   go_ret
   obtain rfl:j=xs.length:=J;refine⟨CY (by rw[List.take_length]),?_,honly,bX.o⟩;have h:=aC.o;rw[A9 (by rw[GO];exact A2 _)]at h;simpa using h
theorem X5(v:Value)(xs:I)(k:Int)(w:World)(hv:AI w v (FG k xs))(ap:0≤k)(fH:k≤1048576)(aN:xs.length≤1048576)(bJ:cells xs≤1048576):
  Calls Tryz.prog 75 #[v,.int .i64 k] w fun e w'=>e=.returned (.int .i64 (k+cells xs))∧w=w':=by
 obtain⟨a,cap,rfl,ae,cJ,-,hc⟩:=hv;rw[GO]at ae cJ hc⊢;go_enter Tryz.func75,Tryz.ntmps75;go_wp2;go_loop [1,5] (fun m i=>∃j:Nat,j≤xs.length∧i=.int .i64 j∧m=.int .i64 (k+cells (xs.take j))) (fun _ i=>xs.length-(intOf i).toNat);exact⟨0,A7 _,rfl,by simp[cells]⟩;obtain⟨j,hj,rfl,rfl⟩:=hrel;have zO:=DY xs j;by_cases aF:j<xs.length
 ·obtain⟨r,hr⟩:∃r,xs[j]? =some r:=⟨_,A3 aF⟩;obtain⟨b,off,rfl,-,bO⟩:=hc J;obtain⟨u,aW,hu⟩:=bO j _ (V0 hr);have hu:Au w u _:=hu;have nK:=L2 hr;have hcj2:=DY xs (j+1);have cV:=Ny u r.length (k+cells (xs.take j)) w hu J J J;have bG:=Z cV;have sd:=Z nK;have aZ:0≤k+(cells (xs.take j):Int)+r.length:=J;clear hc bO hr nK hu cV;go_wp2_with fail;refine bG.o.mono ?_;rintro e w' ⟨rfl,rfl⟩;go_wp2
  go_round
  exact⟨j+1,J,by go_num,by rw[sd.o];congr 1;omega⟩;exact Jv
 ·go_wp2
  go_ret
  obtain rfl:j=xs.length:=J;exact⟨CY (by rw[List.take_length]),rfl⟩
theorem GF(v:Value)(xs:U)(w:World)(hv:Au w v xs)(hl:xs.length≤1048576):Calls Tryz.prog 83 #[v] w (N7 3 Ap w xs):=by
 have Hv:=Z hv;obtain⟨a,cap,rfl,-⟩:=hv;have gU:([]:U).length+xs.length≤1099511627776:=by simp;omega
 go_enter Tryz.func83,Tryz.ntmps83;go_wp2_with (first|(at_builtin;refine DM rfl _ _ 32 rfl 3 Tryz.underlying32 Bg rfl (fun _=>False) rfl rfl (by exact Ag.nil _ _ _ _) (by exact Hv.o) gU ?_;intro v2 w2 hown2 honly2 _));have hb:Below w.heap.size w w2:=by
  have ho:AO (fun b=>(Value.slice none 0 0).ownBlock=some b) w w2:=honly2;refine AO.pure (ho.mono fun b hb _=>?_);exact absurd hb (by simp[Value.ownBlock])
 go_wp2
 go_ret
 refine⟨_,rfl,?_,hb⟩;have h:=(Ab A8).mono (S':=Iv w.heap.size w2.heap.size) (fun b hb=>by
  rcases hb with hb|hb
  ·exact hb.elim
  ·exact hb) hown2
 simpa using h
theorem F5(v:Value)(m:I)(w:World)(hv:AI w v m)(hm:m.length≤1048576)(hr:∀x∈m,x.length≤1048576):Calls Tryz.prog 82 #[v] w (N7 32 (Ag 3 Ap) w m):=by
 have Hv:=Z hv;obtain⟨a,cap0,rfl,-⟩:=hv;go_enter Tryz.func82,Tryz.ntmps82;go_wp2;go_loopw [3,5,8] (fun v _ i wr=>∃k:Nat,k≤m.length∧i=.int .i64 k∧Ag 32 (Ag 3 Ap) (Iv w.heap.size wr.heap.size) wr v (m.take k)∧Below w.heap.size w wr) (fun _ _ i _=>m.length-(intOf i).toNat);exact⟨0,A7 _,rfl,Ag.nil _ _ _ _,A6 _ _⟩;obtain⟨k,hk,rfl,aB,aA⟩:=hrel;obtain⟨wo,rfl⟩:∃wo:World,wo=wr:=⟨_,rfl⟩;have bD:=aA.size;by_cases aF:k<m.length
 ·obtain⟨row,aD⟩:∃row,m[k]? =some row:=⟨_,A3 aF⟩;obtain⟨b,off,cpr,he,hb,-⟩:=Hv.o.qac J;obtain⟨rfl,-⟩:a=some ⟨b,off,none⟩∧cap0=cpr:=by simpa using he
  obtain⟨u,aW,hu⟩:=Sl.at Hv.o aD;have hu:Au w u row:=hu;obtain⟨br,cpr,rfl,-⟩:=id hu;rw[←aA.cell (p:=⟨b,off+k,none⟩) hb]at aW;have aj:=hr row (A4 aD);have aG:=Z (show m.take (k+1)=m.take k++[row]from by rw[Ao,aD];rfl);have Hu:=Z (hu.keep aA);have au:(m.take k).length<1099511627776:=by simp;omega
  have aC:=Z aB;clear aD hu aB he;go_wp2_with fail;refine(GF _ _ _ Hu.o aj).mono ?_;rintro e w1 ⟨v1,rfl,aw,hbel1⟩;have cQ:wo.heap.size≤w1.heap.size:=hbel1.size;obtain⟨p1,p2,p3,rfl⟩:=aw.shape;go_wp2_with (first|(at_builtin;(refine AH rfl _ _ 31 rfl (Ab A8) 32 Tryz.underlying31 EI rfl Jq w.heap.size wo.heap.size bD cQ rfl rfl (by exact Ag.keep (Ab A8) aC.o hbel1 (A2 _)) (by exact aw) au ?_);intro v2 w2 hown2 hbel2 _)|fail);have af:=(aA.trans (hbel1.mono bD)).trans hbel2;have aX:=Z hown2;clear hown2;go_wp2;go_roundw;exact⟨k+1,J,by go_num,by rw[aG.o];exact aX.o,af⟩;exact Jv
 ·have aU:=Z (show m.take k=m from by rw[A9 J]);have aC:=Z aB;clear aB;go_wp2
  go_ret
  exact⟨_,rfl,by rw[←aU.o];exact aC.o,aA⟩
theorem Ku:(Tryz.prog.info? 32).map (fun i=>(i.zero,i.size,i.bytes))=some (some (.slice none 0 0),1,24):=by kernel_rfl
theorem D5(v:Value)(m:I)(w:World)(hv:AI w v m)(hm:m.length≤1048576)(hr:∀x∈m,x.length≤1048576):Calls Tryz.prog 122 #[v] w (N7 32 (Ag 3 Ap) w m):=by
 have Hv:=Z hv;have Hr:=Z hr;obtain⟨a,cap0,rfl,-⟩:=hv;clear hr;go_enter Tryz.func122,Tryz.ntmps122;go_wp2;go_loopw [3,9] (fun v i wr=>∃k:Nat,k≤m.length∧i=.int .i64 k∧Ag 32 (Ag 3 Ap) (Iv w.heap.size wr.heap.size) wr v (m.take k)∧Below w.heap.size w wr) (fun _ i _=>m.length-(intOf i).toNat);exact⟨0,A7 _,rfl,BK _ _ _ (Ab A8),Below.qab _ _⟩;obtain⟨k,hk,rfl,aB,aA⟩:=hrel;obtain⟨wo,rfl⟩:∃wo:World,wo=wr:=⟨_,rfl⟩;have bD:=aA.size;by_cases aF:k<m.length
 ·obtain⟨row,aD⟩:∃row,m[k]? =some row:=⟨_,A3 aF⟩;obtain⟨b,off,cpr,he,hb,-⟩:=Hv.o.qac J;obtain⟨rfl,-⟩:a=some ⟨b,off,none⟩∧cap0=cpr:=by simpa using he
  obtain⟨u,aW,hu⟩:=Sl.at Hv.o aD;have hu:Au w u row:=hu;obtain⟨br,cpr,rfl,-⟩:=id hu;rw[←aA.cell (p:=⟨b,off+k,none⟩) hb]at aW;have aj:=Hr.o row (A4 aD);have aG:=Z (show m.take (k+1)=m.take k++[row]from by rw[Ao,aD];rfl);have Hu:=Z ((hu.keep aA).keep (Below.qab wo (.cells #[] 3)));have eP:=Z (BK wo 3 wo.heap.size A8);have hz:(wo.alloc (.cells #[] 3)).heap.size=wo.heap.size+1:=Jj;have Hz:=Z hz;have gU:([]:U).length+row.length≤1099511627776:=by simp;omega
  have au:(m.take k).length<1099511627776:=by simp;omega
  obtain⟨p1,p2,p3,rfl⟩:=aB.shape;have aC:=Z aB;clear aD hu aB he hz;go_wp2_with (first
   |(at_builtin;(refine DM rfl _ _ 32 rfl 3 Tryz.underlying32 Bg rfl (Iv wo.heap.size (wo.alloc (.cells #[] 3)).heap.size) rfl rfl (by exact eP.o) (by exact Hu.o) gU ?_;intro v2 w2 hown2 honly2 _;obtain⟨q1,q2,q3,rfl⟩:=hown2.shape;have af:Below wo.heap.size wo w2:=(Below.qab wo (.cells #[] 3)).trans (AO.below honly2 (by rw[Hz.o];omega) (fun b hb=>(eP.o.qae b hb).1));have hM:wo.heap.size≤w2.heap.size:=af.size;have jv:=Z ((Ab A8).mono (S':=Iv wo.heap.size w2.heap.size) (fun b hb=>hb.elim (fun h=>⟨h.1,by have h1:=h.2;have h2:=honly2.size;rw[Hz.o]at h1 h2;omega⟩) (fun h=>⟨by have h1:=h.1;rw[Hz.o]at h1;omega,h.2⟩)) hown2);have fa:=Z af;clear hown2 honly2 af))
   |(at_builtin;(refine AH rfl _ _ 31 rfl (Ab A8) 32 Tryz.underlying31 Ku rfl Jq w.heap.size wo.heap.size bD hM rfl rfl (by exact Ag.keep (Ab A8) aC.o fa.o (A2 _)) (by exact jv.o) au ?_);intro v3 w3 bC hbel3 _)
   |fail)
  have dg:=(aA.trans (fa.o.mono bD)).trans hbel3;have cG:=Z bC;clear bC;go_wp2;go_roundw;exact⟨k+1,J,by go_num,by rw[aG.o];simpa using cG.o,dg⟩;exact Jv
 ·have aU:=Z (show m.take k=m from by rw[A9 J]);have aC:=Z aB;clear aB;go_wp2
  go_ret
  exact⟨_,rfl,by rw[←aU.o];exact aC.o,aA⟩
def AU(S:Bk)(w:World)(a b c:Value)(m:I)(r k:U):Prop:=
 ∃Sa Sb Sc:Bk,(∀x,Sa x→S x)∧(∀x,Sb x→S x)∧(∀x,Sc x→S x)∧(∀x,Sa x→¬Sb x)∧(∀x,Sa x→¬Sc x)∧(∀x,Sb x→¬Sc x)∧
  Ag 32 (Ag 3 Ap) Sa w a m∧Ag 3 Ap Sb w b r∧Ag 3 Ap Sc w c k
theorem AU.keep{lo hi:Nat}{k:U}(h:AU (Iv lo hi) w a b c m r k)(hb:Below w.heap.size w w')(hh:hi≤w.heap.size):AU (Iv lo hi) w' a b c m r k:=by
 obtain⟨Sa,Sb,Sc,h1,h2,h3,h4,h5,h6,o1,o2,o3⟩:=h;exact⟨Sa,Sb,Sc,h1,h2,h3,h4,h5,h6,(Ab (Ab A8)).same (Ac hb fun b hb=>by have:=(h1 b hb).2;omega) o1,(Ab A8).same (Ac hb fun b hb=>by have:=(h2 b hb).2;omega) o2,(Ab A8).same (Ac hb fun b hb=>by have:=(h3 b hb).2;omega) o3⟩
theorem AU.only{T:Bk}{k:U}(h:AU S w a b c m r k)(ho:AO T w w')(hh:∀b,S b→b<w.heap.size)(hd:∀b,S b→¬T b):AU S w' a b c m r k:=by
 obtain⟨Sa,Sb,Sc,h1,h2,h3,h4,h5,h6,o1,o2,o3⟩:=h;exact⟨Sa,Sb,Sc,h1,h2,h3,h4,h5,h6,(Ab (Ab A8)).same (ho.same (fun b hb=>hd b (h1 b hb)) fun b hb=>hh b (h1 b hb)) o1,
  (Ab A8).same (ho.same (fun b hb=>hd b (h2 b hb)) fun b hb=>hh b (h2 b hb)) o2,(Ab A8).same (ho.same (fun b hb=>hd b (h3 b hb)) fun b hb=>hh b (h3 b hb)) o3⟩
theorem AU.reads{k:U}(h:AU S w a b c m r k):AI w a m∧Au w b r∧Au w c k:=by
 obtain⟨Sa,Sb,Sc,h1,h2,h3,h4,h5,h6,o1,o2,o3⟩:=h;exact⟨o1.qag,o2.ints,o3.ints⟩
theorem AU.shape{k:U}(h:AU S w a b c m r k):(∃x y z,a=.slice x y z)∧(∃x y z,b=.slice x y z)∧(∃x y z,c=.slice x y z):=by
 obtain⟨Sa,Sb,Sc,h1,h2,h3,h4,h5,h6,o1,o2,o3⟩:=h;exact⟨o1.shape,o2.shape,o3.shape⟩
theorem M0{g:Nat}(h:w.heap[g]? =some (.cells #[.int .i64 n] E))(hn:Cc n)(hS:S g):Ag E Ap S w (.slice (some ⟨g,0,none⟩) 1 1) [n]:=
 .inr ⟨g,#[.int .i64 n],rfl,hS,h,Jj,by simp[maxLen],Jj,fun _ _=>False,fun _ _ h=>h.elim,fun _ _ _ h=>h.elim,fun k x hk=>by
  cases k with
  |zero=>simp at hk;subst hk;exact⟨_,rfl,rfl,hn⟩
  |succ k=>simp at hk⟩
theorem Ub{E' g r:Nat}(h:w.heap[g]? =some (.cells #[.slice (some ⟨r,0,none⟩) 1 1] E))(h2:w.heap[r]? =some (.cells #[.int .i64 n] E'))(hn:Cc n)(hS:S g)(hS2:S r)(aK:r≠g):Ag E (Ag E' Ap) S w (.slice (some ⟨g,0,none⟩) 1 1) [[n]]:=
 .inr ⟨g,#[.slice (some ⟨r,0,none⟩) 1 1],rfl,hS,h,Jj,by simp[maxLen],Jj,fun k b=>k=0∧b=r,fun k b hb=>⟨by rw[hb.2];exact hS2,by rw[hb.2];exact aK⟩,fun i j b h1 h2=>by rw[h1.1,h2.1],fun k x hk=>by
  cases k with
  |zero=>simp at hk;subst hk;exact⟨_,rfl,M0 h2 hn ⟨rfl,rfl⟩⟩
  |succ k=>simp at hk⟩
theorem NewConsole_spec.qax(w:World):Calls Tryz.prog 58 #[] w fun e w'=>∃a b c,e=.returned (.agg #[a,b,c])∧AU (Iv w.heap.size w'.heap.size) w' a b c [[0]] [0] [0]∧Below w.heap.size w w':=by
 go_enter Tryz.func58,Tryz.ntmps58;go_wp2;refine bodyPost_ret (v:=.agg #[.slice (some ⟨w.heap.size+2,0,none⟩) 1 1,.slice (some ⟨w.heap.size+3,0,none⟩) 1 1,.slice (some ⟨w.heap.size+4,0,none⟩) 1 1]) (by simp[results,Tryz.results58,go_sem]) rfl ⟨_,_,_,rfl,?_,?_⟩
 ·refine⟨Iv w.heap.size (w.heap.size+3),Iv (w.heap.size+3) (w.heap.size+4),Iv (w.heap.size+4) (w.heap.size+5),?_,?_,?_,?_,?_,?_,Ub (r:=w.heap.size+1) ?_ ?_ (Cc.small Jq Jq) ⟨J,J⟩ ⟨J,J⟩ J,M0 ?_ (Cc.small Jq Jq) ⟨J,J⟩,M0 ?_ (Cc.small Jq Jq) ⟨J,J⟩⟩
  ·intro x hx;have:=hx.1;have:=hx.2;exact⟨J,by simp;omega⟩
  ·intro x hx;have:=hx.1;have:=hx.2;exact⟨J,by simp;omega⟩
  ·intro x hx;have:=hx.1;have:=hx.2;exact⟨J,by simp;omega⟩
  ·intro x hx hy;have:=hx.2;have:=hy.1;omega
  ·intro x hx hy;have:=hx.2;have:=hy.1;omega
  ·intro x hx hy;have:=hx.2;have:=hy.1;omega
  ·show((((w.heap.push _).push _).push _).push _|>.push _)[_]? =_;simp only[Array.getElem?_push,Array.size_push]
   repeat (first|rw[if_pos trivial]|rw[if_neg J]|rw[if_pos J])
  ·show((((w.heap.push _).push _).push _).push _|>.push _)[_]? =_;simp only[Array.getElem?_push,Array.size_push]
   repeat (first|rw[if_pos trivial]|rw[if_neg J]|rw[if_pos J])
  ·show((((w.heap.push _).push _).push _).push _|>.push _)[_]? =_;simp only[Array.getElem?_push,Array.size_push]
   repeat (first|rw[if_pos trivial]|rw[if_neg J]|rw[if_pos J])
  ·show((((w.heap.push _).push _).push _).push _|>.push _)[_]? =_;simp only[Array.getElem?_push,Array.size_push]
   repeat (first|rw[if_pos trivial]|rw[if_neg J]|rw[if_pos J])
 ·exact((((((A6 _ _).alloc (A2 _) _).alloc Jj _).alloc (by simp;omega) _).alloc (by simp;omega) _).alloc (by simp;omega) _)
theorem NewConsole_impl.qax(w:World):Calls Tryz.prog 12 #[] w fun e w'=>∃a b c,e=.returned (.agg #[a,b,c])∧AU (Iv w.heap.size w'.heap.size) w' a b c [[0]] [0] [0]∧Below w.heap.size w w':=by
 go_enter Tryz.func12,Tryz.ntmps12;go_wp2;refine bodyPost_ret (v:=.agg #[.slice (some ⟨w.heap.size+2,0,none⟩) 1 1,.slice (some ⟨w.heap.size+3,0,none⟩) 1 1,.slice (some ⟨w.heap.size+4,0,none⟩) 1 1]) (by simp[results,Tryz.results12,go_sem]) rfl ⟨_,_,_,rfl,?_,?_⟩
 ·refine⟨Iv w.heap.size (w.heap.size+3),Iv (w.heap.size+3) (w.heap.size+4),Iv (w.heap.size+4) (w.heap.size+5),?_,?_,?_,?_,?_,?_,Ub (r:=w.heap.size+1) ?_ ?_ (Cc.small Jq Jq) ⟨J,J⟩ ⟨J,J⟩ J,M0 ?_ (Cc.small Jq Jq) ⟨J,J⟩,M0 ?_ (Cc.small Jq Jq) ⟨J,J⟩⟩
  ·intro x hx;have:=hx.1;have:=hx.2;exact⟨J,by simp;omega⟩
  ·intro x hx;have:=hx.1;have:=hx.2;exact⟨J,by simp;omega⟩
  ·intro x hx;have:=hx.1;have:=hx.2;exact⟨J,by simp;omega⟩
  ·intro x hx hy;have:=hx.2;have:=hy.1;omega
  ·intro x hx hy;have:=hx.2;have:=hy.1;omega
  ·intro x hx hy;have:=hx.2;have:=hy.1;omega
  ·show((((w.heap.push _).push _).push _).push _|>.push _)[_]? =_;simp only[Array.getElem?_push,Array.size_push]
   repeat (first|rw[if_pos trivial]|rw[if_neg J]|rw[if_pos J])
  ·show((((w.heap.push _).push _).push _).push _|>.push _)[_]? =_;simp only[Array.getElem?_push,Array.size_push]
   repeat (first|rw[if_pos trivial]|rw[if_neg J]|rw[if_pos J])
  ·show((((w.heap.push _).push _).push _).push _|>.push _)[_]? =_;simp only[Array.getElem?_push,Array.size_push]
   repeat (first|rw[if_pos trivial]|rw[if_neg J]|rw[if_pos J])
  ·show((((w.heap.push _).push _).push _).push _|>.push _)[_]? =_;simp only[Array.getElem?_push,Array.size_push]
   repeat (first|rw[if_pos trivial]|rw[if_neg J]|rw[if_pos J])
 ·exact((((((A6 _ _).alloc (A2 _) _).alloc Jj _).alloc (by simp;omega) _).alloc (by simp;omega) _).alloc (by simp;omega) _)
theorem Jm(a b c a' b' c':Value)(m m':I)(r k r' k':U)(w:World)(h1:AI w a m)(h2:Au w b r)(h3:Au w c k)(ly:AI w a' m')(nP:Au w b' r')(k8:Au w c' k'):
  Calls Tryz.prog 19 #[.agg #[a,b,c],.agg #[a',b',c']] w fun e w'=>e=.returned (.bool (decide (m=m')&&decide (r=r')&&decide (k=k')))∧Below w.heap.size w w':=by
 have hb:∀o1 o2 n,Below w.heap.size w (((w.alloc o1).alloc o2).drewN n):=fun o1 o2 n=>below_drewN (((A6 _ _).alloc (A2 _) _).alloc Jj _) _;have Hb:=Z hb;clear hb;go_enter Tryz.func19,Tryz.ntmps19;go_wp2_with fail;refine(A1h _ _ _ _ _ (h1.keep (Hb.o _ _ 0)) (ly.keep (Hb.o _ _ 0))).mono ?_;rintro e w' ⟨rfl,n,rfl⟩;cases he:decide (m=m')
 ·go_wp2
  go_ret
  exact⟨AW (by rw[he];simp),Hb.o _ _ _⟩
 have He:=Z he;go_wp2_with fail;refine(Pk _ _ _ _ _ (h2.keep (Hb.o _ _ _)) (nP.keep (Hb.o _ _ _))).mono ?_;rintro e w' ⟨rfl,n1,rfl⟩;cases dX:decide (r=r')
 ·go_wp2
  go_ret
  exact⟨AW (by rw[dX];simp),by simpa using Hb.o _ _ _⟩
 have tJ:=Z dX;go_wp2_with fail;refine(Pk _ _ _ _ _ (h3.keep (by simpa using Hb.o _ _ _)) (k8.keep (by simpa using Hb.o _ _ _))).mono ?_;rintro e w' ⟨rfl,n2,rfl⟩;cases he3:decide (k=k')
 ·go_wp2
  go_ret
  exact⟨AW (by rw[he3];simp),by simpa using Hb.o _ _ _⟩
 ·go_wp2
  go_ret
  exact⟨AW (by rw[He.o,tJ.o,he3];rfl),by simpa using Hb.o _ _ _⟩
theorem Ng(a b c:Value)(m:I)(r k:U)(n:Int)(S:Bk)(w:World)(h:AU S w a b c m r k)(hS:∀x,S x→x<w.heap.size)(dS:0≤n)(ep:n≤1024)(hl:m.length≤1048576)(bJ:cells m≤1048576)(hr:r.length≤1048576)(hk:k.length≤1048576):
  Calls Tryz.prog 20 #[.agg #[a,b,c],.int .i64 n] w fun e w'=>e=.returned (.int .i64 (n+cells m+r.length+k.length))∧AU S w' a b c (FG n m) (Gd (n+cells m) r.length) (Gd (n+cells m+r.length) k.length)∧AO S w w':=by
 obtain⟨Sa,Sb,Sc,h1,h2,h3,h4,h5,h6,o1,o2,o3⟩:=h;have oj:∀o,Below w.heap.size w (w.alloc o):=fun o=>Below.qab w o;go_enter Tryz.func20,Tryz.ntmps20;go_wp2_with fail;refine(WP _ _ _ Sa _ ((Ab (Ab A8)).same (Ac (oj _) fun x hx=>hS x (h1 x hx)) o1) (fun x hx=>by have:=hS x (h1 x hx);simp;omega) J J J J).mono ?_;rintro e w1 ⟨rfl,p1,q1,z1⟩;have bL:w1.heap.size=w.heap.size+1:=by rw[←z1];simp
 have rq:=Z bL;have k0:∀j,w1.cell? ⟨w.heap.size,j,none⟩=#[a,b,c][j]? :=fun j=>by
  rw[q1.cell (p:=⟨w.heap.size,j,none⟩) Jj (fun hx=>by have:=hS _ (h1 _ hx);simp at this)];exact cell_of_row _ _ _ _ _ _ (heap_alloc_new w _)
 have k1:w1.cell? ⟨w.heap.size,1,none⟩=some b:=k0 1;have k2:w1.cell? ⟨w.heap.size,2,none⟩=some c:=k0 2;have o2':=(Ab A8).same (q1.same (T:=Sb) (fun x hx hy=>h4 x hy hx) (fun x hx=>by have:=hS x (h2 x hx);simp;omega)) ((Ab A8).same (Ac (oj _) fun x hx=>hS x (h2 x hx)) o2);have o3':=(Ab A8).same (q1.same (T:=Sc) (fun x hx hy=>h5 x hy hx) (fun x hx=>by have:=hS x (h3 x hx);simp;omega)) ((Ab A8).same (Ac (oj _) fun x hx=>hS x (h3 x hx)) o3);have K2:=Z k2;clear k0 k2 bL z1;go_wp2_with fail;refine(NJ _ _ _ Sb _ o2' J J J).mono ?_;rintro e w2 ⟨rfl,p2,q2,z2⟩;have Z2:=Z z2;clear z2;have k2:w2.cell? ⟨w.heap.size,2,none⟩=some c:=by
  rw[q2.cell (p:=⟨w.heap.size,2,none⟩) (by rw[rq.o];simp) (fun hx=>by have:=hS _ (h2 _ hx);simp at this)];exact K2.o
 have o3'':=(Ab A8).same (q2.same (T:=Sc) (fun x hx hy=>h6 x hy hx) (fun x hx=>by have:=hS x (h3 x hx);rw[rq.o];omega)) o3';have p1':=(Ab (Ab A8)).same (q2.same (T:=Sa) (fun x hx hy=>h4 x hx hy) (fun x hx=>by have:=hS x (h1 x hx);rw[rq.o];omega)) p1;go_wp2_with fail;refine(NJ _ _ _ Sc _ o3'' J J J).mono ?_;rintro e w3 ⟨rfl,p3,q3,z3⟩;have Z3:=Z z3;clear z3;have p1'':=(Ab (Ab A8)).same (q3.same (T:=Sa) (fun x hx hy=>h5 x hx hy) (fun x hx=>by have:=hS x (h1 x hx);rw[←Z2.o,rq.o];omega)) p1';have p2':=(Ab A8).same (q3.same (T:=Sb) (fun x hx hy=>h6 x hx hy) (fun x hx=>by have:=hS x (h2 x hx);rw[←Z2.o,rq.o];omega)) p2;have aQ:AO S w w3:=(((AO.qaj (oj _) S).qai (q1.mono fun x hx _=>.inl (h1 x hx))).qai (q2.mono fun x hx _=>.inl (h2 x hx))).qai (q3.mono fun x hx _=>.inl (h3 x hx));go_wp2
 go_ret
 exact⟨rfl,⟨Sa,Sb,Sc,h1,h2,h3,h4,h5,h6,p1'',p2',p3⟩,aQ⟩
theorem Nj(a b c:Value)(m:I)(r k:Nat)(n:Int)(w:World)(h1:AI w a (FG n m))(h2:Au w b (Gd (n+cells m) r))(h3:Au w c (Gd (n+cells m+r) k))(dS:0≤n)(ep:n≤1024)(hl:m.length≤1048576)(bJ:cells m≤1048576)(hr:r≤1048576)(hk:k≤1048576):
  Calls Tryz.prog 21 #[.agg #[a,b,c],.int .i64 n] w fun e w'=>e=.returned (.int .i64 (n+cells m+r+k))∧Below w.heap.size w w':=by
 have hb:∀o,Below w.heap.size w (w.alloc o):=fun o=>Below.qab w o;have Hb:=Z hb;clear hb;go_enter Tryz.func21,Tryz.ntmps21;go_wp2_with fail;refine(X5 _ _ _ _ (h1.keep (Hb.o _)) J J J J).mono ?_;rintro e w' ⟨rfl,rfl⟩;have t1:0≤n+(cells m:Int):=J;go_wp2_with fail;refine(Ny _ _ _ _ (h2.keep (Hb.o _)) J J J).mono ?_;rintro e w' ⟨rfl,rfl⟩;have t2:0≤n+(cells m:Int)+r:=J;go_wp2_with fail;refine(Ny _ _ _ _ (h3.keep (Hb.o _)) J J J).mono ?_;rintro e w' ⟨rfl,rfl⟩;have t3:0≤n+(cells m:Int)+r+k:=J;go_wp2
 go_ret
 exact⟨rfl,Hb.o _⟩
end Go.Proofs.YthmocomfjgmjoaaGreatDoor
namespace Go.Proofs.YthmocomfjgmjoaaGreatDoor
variable {a:Int}{c j k key:Nat}{line:U}{m:I}{n:Nat}{o:U}{r:Nat}{rs st:U}{x y:Nat}
def Ax(r c:Nat)(m:I):Prop:=m.length=r∧∀row∈m,row.length=c∧∀x∈row,0≤x∧x≤1
def EP(lo hi:Int)(n:Nat)(row:U):Bool:=decide (row.length=n)&&C1 1 5 row.length&&row.all (C1 lo hi)
def Ds(lo hi:Int)(m:I):Bool:=C1 1 5 m.length&&m.all (EP lo hi (m.headD []).length)
def AC(m:I):Bool:=Ds 0 1 m
theorem Ax.ok(h:Ax r c m)(h1:1≤r)(h2:r≤5)(h3:1≤c)(h4:c≤5):AC m=true:=by
 obtain⟨hl,hr⟩:=h;unfold AC Ds;rw[Af];refine⟨Ft J J,?_⟩;rw[Ar];intro row aD;have hh:m.headD []∈m:=by
  cases m with
  |nil=>simp at aD
  |cons a m=>simp
 obtain⟨e1,e2⟩:=hr row aD;obtain⟨e3,_⟩:=hr _ hh;simp only[EP,Af,Ah,Ar];exact⟨⟨by rw[e1,e3],Ft J J⟩,fun x hx=>Ft (e2 x hx).1 (e2 x hx).2⟩
theorem Az(h:AC m=true):∃r c,1≤r∧r≤5∧1≤c∧c≤5∧Ax r c m:=by
 unfold AC Ds at h;rw[Af,Ar,Bz]at h;obtain⟨⟨h1,h2⟩,h3⟩:=h;have hh:m.headD []∈m:=by
  cases m with
  |nil=>simp at h1
  |cons a m=>simp
 have dE:=h3 _ hh;simp only[EP,Af,Ah,Ar,Bz]at dE;refine⟨m.length,(m.headD []).length,J,J,J,J,rfl,fun row aD=>?_⟩;have:=h3 _ aD;simp only[EP,Af,Ah,Ar,Bz]at this;exact⟨this.1.1,this.2⟩
theorem Ax.row(h:Ax r c m)(hy:y<r):∃row,m[y]? =some row∧row.length=c∧∀x∈row,0≤x∧x≤1:=by
 have hl:y<m.length:=by rw[h.1];exact hy
 exact⟨m[y],A3 hl,h.2 _ (List.getElem_mem hl)⟩
theorem Ax.set(h:Ax r c m){row:U}(hy:m[y]? =some row){n:Int}(h0:0≤n)(h1:n≤1):Ax r c (m.set y (row.set x n)):=by
 refine⟨by simp[h.1],fun q hq=>?_⟩;rcases List.mem_or_eq_of_mem_set hq with hq|rfl
 ·exact h.2 q hq
 ·obtain⟨e1,e2⟩:=h.2 row (A4 hy);refine⟨by simpa using e1,fun z hz=>?_⟩;rcases List.mem_or_eq_of_mem_set hz with hz|rfl
  ·exact e2 z hz
  ·exact⟨h0,h1⟩
theorem JK(r c:Nat):Ax r c (List.replicate r (List.replicate c 0)):=by
 refine⟨Jj,fun row aD=>?_⟩;obtain rfl:=List.eq_of_mem_replicate aD;refine⟨Jj,fun x hx=>?_⟩;obtain rfl:=List.eq_of_mem_replicate hx;exact⟨Jq,Jq⟩
def B6(n key:Nat):U:=(List.range n).map fun x:Nat=>((key/2^(n-1-x) % 2:Nat):Int)
def Er(n:Nat)(rs:U)(k:Nat):I:=((List.range k).map (B6 n)).filter fun l=>decide (C3 l=rs)
def BC(rs:U)(n:Nat):I:=Er n rs (2^n)
theorem Fd(n key:Nat):(B6 n key).length=n:=by simp[B6]
theorem Xu(h:x<n):(B6 n key)[x]? =some ((key/2^(n-1-x) % 2:Nat):Int):=by simp[B6,h]
theorem OK(n:Nat)(rs:U)(k:Nat):Er n rs (k+1)=if C3 (B6 n k)=rs then Er n rs k++[B6 n k]else Er n rs k:=by
 unfold Er;rw[List.range_succ,List.map_append,List.filter_append]
 split<;>simp_all
theorem Jf(n:Nat)(rs:U)(k:Nat):(Er n rs k).length≤k:=by
 have:=List.length_filter_le (fun l=>decide (C3 l=rs)) ((List.range k).map (B6 n));simpa[Er]using this
theorem A2m(h:j<n):((B6 n key).take j++List.replicate (n-j) 0).set j ((key/2^(n-1-j) % 2:Nat):Int)=(B6 n key).take (j+1)++List.replicate (n-(j+1)) 0:=by
 have:=Xx (Xu (key:=key) h);rwa[Fd]at this
def MI(st line:U)(x:Nat):Bool:=decide (st.getD x 0<0)||(st.getD x 0==line.getD x 0)
def Fs(st line:U)(j:Nat):Bool:=(List.range j).all (MI st line)
def K5(st line:U):Bool:=Fs st line line.length
def Fz(a b:Int):Int:=if a=b then a else-1
def Fn(o line:U):U:=List.zipWith Fz o line
def FY(st:U)(acc:Option U)(line:U):Option U:=
 if K5 st line then some (match acc with|none=>line|some o=>Fn o line)else acc
def Cg(L:I)(st:U)(k:Nat):Option U:=(L.take k).foldl (FY st) none
def Is(st:U):Bool:=C1 1 5 st.length&&st.all (C1 (-1) 1)
def BA(rs st:U):Option U:=if Is st then Cg (BC rs st.length) st (BC rs st.length).length else none
theorem NP{x c:Int}(hx:st[j]? =some x)(hc:line[j]? =some c):MI st line j=(decide (x<0)||(x==c)):=by
 simp[MI,List.getD,hx,hc]
theorem Nf(st line:U)(j:Nat):Fs st line (j+1)=(Fs st line j&&MI st line j):=by
 simp[Fs,List.range_succ]
theorem IB{L:I}(h:L[k]? =some line):Cg L st (k+1)=FY st (Cg L st k) line:=by
 obtain⟨hk,hx⟩:=A5.1 h;unfold Cg;rw[List.take_succ_eq_append_getElem hk,hx,List.foldl_append];rfl
theorem FK(o line:U):(Fn o line).length=min o.length line.length:=by simp[Fn]
def Dh(o line:U)(j:Nat):U:=(Fn o line).take j++o.drop j
theorem Ou(o line:U):Dh o line 0=o:=by simp[Dh]
theorem Mn(h:o.length=line.length)(j:Nat):(Dh o line j).length=o.length:=by
 simp[Dh,FK,h];omega
theorem Qf(h:o.length=line.length):Dh o line line.length=Fn o line:=by
 simp[Dh,A9,FK,h]
theorem Oa(h:o.length=line.length)(ha:o[j]? =some a):(Dh o line j)[j]? =some a:=by
 have hj:=(A5.1 ha).1;rw[Dh,List.getElem?_append_right (by simp[FK];omega),At,FK,List.getElem?_drop,←ha]
 congr 1;omega
theorem KD{b:Int}(h:o.length=line.length)(ha:o[j]? =some a)(hb:line[j]? =some b):Dh o line (j+1)=(Dh o line j).set j (Fz a b):=by
 have hj:=(A5.1 ha).1;have hm:(Fn o line)[j]? =some (Fz a b):=by simp[Fn,List.getElem?_zipWith,ha,hb]
 obtain⟨h1,h2⟩:=A5.1 hm;unfold Dh;rw[List.set_append_right _ _ (by simp[FK];omega),List.take_succ_eq_append_getElem h1,h2];have:j-(List.take j (Fn o line)).length=0:=by simp[FK];omega
 rw[this,List.drop_eq_getElem_cons hj,List.set_cons_zero];simp
theorem OC(h:o.length=line.length)(ha:o[j]? =some a)(hb:line[j]? =some a):Dh o line (j+1)=Dh o line j:=by
 rw[KD h ha hb];have h1:=Oa h ha;have hl:=Mn h j;rw[show Fz a a=a from by simp[Fz]];obtain⟨h2,h3⟩:=A5.1 h1;rw[←h3];exact List.set_getElem_self h2
theorem Jn{l:U}(h:l∈Er n rs k):l.length=n∧∀x∈l,0≤x∧x≤1:=by
 simp only[Er,List.mem_filter,AE,AG]at h;obtain⟨⟨q,_,rfl⟩,_⟩:=h;refine⟨Fd _ _,fun x hx=>?_⟩;simp only[B6,AE,AG]at hx;obtain⟨j,_,rfl⟩:=hx;have:=Nat.mod_lt (q/2^(n-1-j)) (show 0<2 by decide);omega
theorem A1g(h:∀x∈o,-1≤x∧x≤1):∀x∈Fn o line,-1≤x∧x≤1:=by
 intro x hx;obtain⟨j,hj⟩:=List.getElem?_of_mem hx;simp only[Fn,List.getElem?_zipWith]at hj;cases h1:o[j]? with
 |none=>simp[h1]at hj
 |some a=>
  cases h2:line[j]? with
  |none=>simp[h1,h2]at hj
  |some b=>
   simp[h1,h2]at hj;have:=h a (A4 h1);unfold Fz at hj
   split at hj<;>omega
theorem Lr:∀k,k≤(BC rs n).length→∀o,Cg (BC rs n) st k=some o→o.length=n∧∀x∈o,-1≤x∧x≤1:=by
 intro k;induction k with
 |zero=>intro _ o h;simp[Cg]at h
 |succ k ih=>
  intro hk o h;have bt:(BC rs n)[k]? =some (BC rs n)[k]:=A3 J;rw[IB bt]at h;obtain⟨eJ,fl⟩:=Jn (A4 bt);unfold FY at h
  split at h
  ·cases bY:Cg (BC rs n) st k with
   |none=>
    rw[bY]at h;simp at h;subst h;exact⟨eJ,fun x hx=>by have:=fl x hx;omega⟩
   |some o'=>
    rw[bY]at h;simp at h;subst h;obtain⟨e1,e2⟩:=ih J o' bY;exact⟨by rw[FK];omega,A1g e2⟩
  ·exact ih J o h
def Dm(N key i:Nat):Int:=((key/2^(N-1-i) % 2:Nat):Int)
def CG(r c key k:Nat):I:=(List.range r).map fun y=>(List.range c).map fun x=>if k≤y*c+x then Dm (r*c) key (y*c+x)else 0
def E0(r c key:Nat):I:=CG r c key 0
theorem J3(N key i:Nat):0≤Dm N key i∧Dm N key i≤1:=by
 unfold Dm;have:=Nat.mod_lt (key/2^(N-1-i)) (show 0<2 by decide);omega
theorem Ni(r c key k:Nat):Ax r c (CG r c key k):=by
 refine⟨by simp[CG],fun row aD=>?_⟩;simp only[CG,AE,AG]at aD;obtain⟨y,_,rfl⟩:=aD;refine⟨Jj,fun z hz=>?_⟩;simp only[AE,AG]at hz;obtain⟨x,_,rfl⟩:=hz
 split
 ·exact J3 _ _ _
 ·decide
theorem Se{a b:I}(ha:a.length=r)(hb:b.length=r)(h:∀y,y<r→∃p q,a[y]? =some p∧b[y]? =some q∧p.length=c∧q.length=c∧∀x,x<c→p[x]? =q[x]?):a=b:=by
 apply List.ext_getElem?;intro y;by_cases hy:y<r
 ·obtain⟨p,q,h1,h2,h3,h4,h5⟩:=h y hy;rw[h1,h2]
  congr 1
  apply List.ext_getElem?;intro x;by_cases hx:x<c
  ·exact h5 x hx
  ·rw[Am J,Am J]
 ·rw[Am J,Am J]
theorem Yc(r c key:Nat):CG r c key (r*c)=List.replicate r (List.replicate c 0):=by
 apply Se (r:=r) (c:=c) (by simp[CG]) Jj;intro y hy;refine⟨_,List.replicate c 0,by simp[CG,hy];rfl,by simp[hy],Jj,Jj,fun x hx=>?_⟩;have h1:y*c+x<r*c:=by
  have:(y+1)*c≤r*c:=Nat.mul_le_mul_right _ hy;rw[Nat.succ_mul]at this;omega
 simp[hx,Nat.not_le.2 h1]
theorem GI(hx:x<c):y*c+x=k↔(k/c=y∧k % c=x):=by
 constructor
 ·rintro rfl;rw[Nat.mul_comm];exact⟨by rw[Nat.mul_add_div J,Nat.div_eq_of_lt hx];omega,by rw[Nat.mul_add_mod,Nat.mod_eq_of_lt hx]⟩
 ·rintro⟨rfl,rfl⟩;rw[Nat.mul_comm];exact Nat.div_add_mod k c
theorem VN(hc:0<c)(hk:k<r*c){row:U}(aD:(CG r c key (k+1))[k/c]? =some row):CG r c key k=(CG r c key (k+1)).set (k/c) (row.set (k % c) (Dm (r*c) key k)):=by
 have hy:k/c<r:=by rw[Nat.div_lt_iff_lt_mul hc];exact hk
 have hx:k % c<c:=Nat.mod_lt _ hc;apply Se (r:=r) (c:=c) (by simp[CG]) (by simp[CG]);intro y gV;have gE:=aD;simp[CG,hy]at gE;have hp:(CG r c key k)[y]? =some ((List.range c).map fun x=>if k≤y*c+x then Dm (r*c) key (y*c+x)else 0):=by simp[CG,gV]
 have nU:(CG r c key (k+1))[y]? =some ((List.range c).map fun x=>if k+1≤y*c+x then Dm (r*c) key (y*c+x)else 0):=by simp[CG,gV]
 by_cases hZ:y=k/c
 ·refine⟨_,_,hp,by rw[hZ,List.getElem?_set_self (by simp[CG];exact hy)],Jj,by rw[←gE];simp,fun x hxc=>?_⟩;rw[←gE,List.getElem?_set];by_cases hxk:k % c=x
  ·rw[if_pos hxk,if_pos (by simpa using hx)];have e:y*c+x=k:=(GI hxc).2 ⟨hZ.symm,hxk⟩;simp[hxc,e]
  ·rw[if_neg hxk];have e:y*c+x≠k:=fun h=>hxk ((GI hxc).1 h).2;simp only[Ak,AA hxc,Option.map_some,←hZ];by_cases h1:k≤y*c+x
   ·rw[if_pos h1,if_pos J]
   ·rw[if_neg h1,if_neg J]
 ·refine⟨_,_,hp,by rw[List.getElem?_set_ne (fun e=>hZ e.symm)];exact nU,Jj,Jj,fun x hxc=>?_⟩;have e:y*c+x≠k:=fun h=>hZ ((GI hxc).1 h).1.symm;simp only[Ak,AA hxc,Option.map_some];by_cases h1:k≤y*c+x
  ·rw[if_pos h1,if_pos J]
  ·rw[if_neg h1,if_neg J]
theorem A1C(c key:Nat):E0 1 c key=[B6 c key]:=by
 simp[E0,CG,B6,Dm]
theorem A3C(key N j:Nat)(hj:j<N):key/2^(N-(j+1)) /2=key/2^(N-j):=by
 rw[Nat.div_div_eq_div_mul,←Nat.pow_succ]
 congr 2;omega
end Go.Proofs.YthmocomfjgmjoaaGreatDoor
namespace Go.Proofs.YthmocomfjgmjoaaGreatDoor
open Go.RowKit
variable {B:Nat}{S:Bk}{c g k:Nat}{m:I}{r:Nat}{row:U}{w w':World}{x:Nat}{xs:U}{y:Nat}{α:Type}
theorem A2M(m:Nat)(hm:m≤62)(c:Int)(hc:c=((2^m-1:Nat):Int))(n:Int):bits .and .i64 n c=n % ((2^m:Nat):Int):=by
 have je:2^m∣2^64:=Nat.pow_dvd_pow 2 J;have aF:2^m≤2^62:=Nat.pow_le_pow_right Jq hm;have aZ:0<2^m:=Nat.two_pow_pos m;have bO:(BitVec.ofInt 64 c).toNat=2^m-1:=by
  rw[hc,BitVec.toNat_ofInt];have:2^m-1<2^64:=J;rw[←Int.natCast_emod,Nat.mod_eq_of_lt this];rfl
 have key:(BitVec.ofInt 64 n&&&BitVec.ofInt 64 c).toNat=(n % ((2^64:Nat):Int)).toNat % 2^m:=by
  rw[BitVec.toNat_and,BitVec.toNat_ofInt,bO,Nat.and_two_pow_sub_one_eq_mod]
 show IntKind.i64.wrap ((BitVec.ofInt 64 n&&&BitVec.ofInt 64 c).toNat:Nat)=n % _;rw[key,IntKind.wrap_i64];have h1:((n % ((2^64:Nat):Int)).toNat % 2^m:Nat)<2^m:=Nat.mod_lt _ aZ;have h2:(((n % ((2^64:Nat):Int)).toNat % 2^m:Nat):Int)=n % ((2^m:Nat):Int):=by
  rw[Int.natCast_emod,Int.toNat_of_nonneg (Int.emod_nonneg _ Jq)];exact Int.emod_emod_of_dvd n (Int.natCast_dvd_natCast.2 je)
 rw[h2];have h3:0≤n % ((2^m:Nat):Int):=Int.emod_nonneg _ J;have h4:n % ((2^m:Nat):Int)<((2^m:Nat):Int):=Int.emod_lt_of_pos _ J;omega
theorem A2l(n:Int):bits .and .i64 n 1=n % 2:=A2M 1 Jq 1 Jq n
def A2A:CP Int:=fun _ _ u n=>u=.int .u8 n∧0≤n∧n≤255
theorem A22:LZ A2A:=⟨fun _ h=>h,fun _ h=>h,fun h=>h,fun h=>by obtain⟨rfl,_⟩:=h;rfl⟩
abbrev A4N:=Rd (Sl A2A)
def Cur(B:Nat)(w:World)(g:Nat):Prop:=
 B≤g∧∃(v:Value)(bs:U)(i:Nat)(h:Int),w.heap[g]? =some (.cells #[v,.int .i64 i,.int .i64 h] 99 (0,0))∧Sl A2A (fun b=>b<B) w v bs∧i≤bs.length
theorem Cur.keep(h:Cur B w g)(hb:Below w.heap.size w w'):Cur B w' g:=by
 obtain⟨h1,v,bs,i,x,h2,h3,h4⟩:=h;have hg:=lt_of_block h2;exact⟨h1,v,bs,i,x,(hb.block g hg).trans h2,(Cd A22).same (Ac hb fun b kg=>by omega) h3,h4⟩
theorem Cur.only(h:Cur B w g)(hb:AO S w w')(hg:¬S g)(hS:∀b,S b→B≤b):Cur B w' g:=by
 obtain⟨h1,v,bs,i,x,h2,h3,h4⟩:=h;have iG:=lt_of_block h2;exact⟨h1,v,bs,i,x,(hb.block g iG hg).trans h2,(Cd A22).same (fun b kg=>hb.block b J (fun hs=>by have:=hS b hs;omega)) h3,h4⟩
theorem Cur.lt(h:Cur B w g):g<w.heap.size:=by
 obtain⟨h1,v,bs,i,x,h2,h3,h4⟩:=h;exact lt_of_block h2
def BJ(r c:Nat):I:=List.replicate r (List.replicate c 0)
theorem KN(r c:Nat)(w:World)(hr:r≤1048576)(hc:c≤1048576):Calls Tryz.prog 266 #[.int .i64 r,.int .i64 c] w (N7 32 (Ag 3 Ap) w (BJ r c)):=by
 go_enter Tryz.func266,Tryz.ntmps266;go_wp2;go_loopw [5,6] (fun v i wr=>∃k:Nat,k≤r∧i=.int .i64 k∧Ag 32 (Ag 3 Ap) (Iv w.heap.size wr.heap.size) wr v (BJ k c)∧Below w.heap.size w wr) (fun _ i _=>r-(intOf i).toNat);exact⟨0,A7 _,rfl,BK _ _ _ (Ab A8),Below.qab _ _⟩;obtain⟨k,hk,rfl,aB,aA⟩:=hrel;have bD:=aA.size;have aC:=Z aB;clear aB;by_cases aF:k<r
 ·have au:(BJ k c).length<1099511627776:=by simp[BJ];omega
  go_wp2_with (first|(at_make;refine EJ _ rfl _ _ 32 rfl 3 Tryz.underlying32 Bg rfl Jq (R:=Ap) 0 ⟨rfl,Cc.small Jq Jq⟩ A8 c rfl rfl J ?_;intro w1 aw hbel1 cn;have fN:=Z cn;clear cn)|(at_builtin;(refine AH rfl _ _ 31 rfl (Ab A8) 32 Tryz.underlying31 EI rfl Jq w.heap.size wr.heap.size bD hbel1.size rfl rfl (by exact Ag.keep (Ab A8) aC.o hbel1 (A2 _)) (by exact aw.qbg A8 (A2 _) (by rw[fN.o];omega)) au ?_);intro v2 w2 hown2 hbel2 _)|fail);have af:=(aA.trans (hbel1.mono bD)).trans hbel2;have aX:=Z hown2;clear hown2;go_wp2;go_roundw;exact⟨k+1,J,by go_num,by simpa[BJ,List.replicate_succ']using aX.o,af⟩;exact Jv
 ·go_wp2
  go_ret
  obtain rfl:k=r:=J;exact⟨_,rfl,aC.o,aA⟩
theorem AV{E E':TypeId}{n cap:Nat}(h:Ag E (Ag E' Ap) S w (.slice (some ⟨g,0,none⟩) n cap) m)(hy:m[y]? =some row)(aK:0<row.length):
  ∃q cq,w.cell? ⟨g,y,none⟩=some (.slice (some ⟨q,0,none⟩) row.length cq)∧S g∧S q∧q≠g∧row.length≤cq∧(∀x,x<row.length→(∃o,w.cell? ⟨q,x,none⟩=some (.int .i64 o))∧w.frozen? ⟨q,x,none⟩=false)∧
   (∀x o,row[x]? =some o→w.cell? ⟨q,x,none⟩=some (.int .i64 o))∧
   ∀(w':World),Jb S w w'→∀(x:Nat)(n':Int),x<row.length→Cc n'→Ag E (Ag E' Ap) S (w'.setCell ⟨q,x,none⟩ (.int .i64 n')) (.slice (some ⟨g,0,none⟩) n cap) (m.set y (row.set x n')):=by
 obtain⟨hSg,-,-,-,T,u,hu,hr,hT,-,hback⟩:=h.qal (Ab A8) hy;obtain⟨q,cq,rfl,hq,dj,gT,-⟩:=hr.qac aK;refine⟨q,cq,hu,hSg,(hT q hq).1,(hT q hq).2,dj,fun x hx=>?_,fun x o ho=>(hr.qaf ho).1,fun w' hs x n' hx hn'=>?_⟩
 ·obtain⟨o,h1,h2⟩:=hr.ints_at hx;exact⟨⟨o,h1⟩,h2⟩
 ·exact hback _ _ (fun b hb jn=>(Below.heap_setCell w' _ _ b (fun e=>by subst e;exact jn hq)).trans (hs b hb)) (((Ab A8).same (fun b hb=>hs b (hT b hb).1) hr).qak hx hn')
theorem A0J{xs:List α}{z:α}{x:α}(h:xs[k]? =some x):(xs.take k++List.replicate (xs.length-k) z).set k x=xs.take (k+1)++List.replicate (xs.length-(k+1)) z:=by
 obtain⟨hk,hx⟩:=A5.1 h;obtain⟨d,hd⟩:∃d,xs.length-k=d+1:=⟨xs.length-k-1,J⟩;rw[hd,show xs.length-(k+1)=d from by omega,List.set_append_right _ _ (by simp;omega),At,Nat.min_eq_left (Nat.le_of_lt hk),Nat.sub_self,List.replicate_succ,List.set_cons_zero,List.take_succ_eq_append_getElem hk,hx];simp
def Cp(n:Nat)(left:Int):Int:=if(n:Int)≤left then left-n else-1
theorem OV(v:Value)(xs:U)(left:Int)(w:World)(hv:Au w v xs)(h0:0≤left)(h1:left≤1048576):Calls Tryz.prog 60 #[v,.int .i64 left] w fun e w'=>e=.returned (.int .i64 (Cp xs.length left))∧w=w':=by
 obtain⟨a,cap,rfl,ae,cJ,-,hc⟩:=hv;by_cases h:(xs.length:Int)≤left
 ·have hr:=Z (show Cp xs.length left=left-xs.length from by simp[Cp,h]);go_enter Tryz.func60,Tryz.ntmps60;go_wp2
  go_ret
  exact⟨CY hr.o.symm,rfl⟩
 ·have hr:=Z (show Cp xs.length left=-1 from by simp[Cp,h]);go_enter Tryz.func60,Tryz.ntmps60;go_wp2
  go_ret
  exact⟨CY hr.o.symm,rfl⟩
def bulk(g:I):Nat:=g.length+cells g
theorem A1G(v:Value)(xs:I)(left:Int)(w:World)(hv:AI w v xs)(h0:0≤left)(h1:left≤1048576):Calls Tryz.prog 59 #[v,.int .i64 left] w fun e w'=>e=.returned (.int .i64 (Cp (bulk xs) left))∧w=w':=by
 obtain⟨a,cap,rfl,ae,cJ,-,hc⟩:=hv;by_cases h:(xs.length:Int)≤left
 ·go_enter Tryz.func59,Tryz.ntmps59;go_wp2;go_loop [1,5] (fun m i=>∃k:Nat,k≤xs.length∧i=.int .i64 k∧(xs.length:Int)+cells (xs.take k)≤left∧m=.int .i64 (left-xs.length-cells (xs.take k))) (fun _ i=>xs.length-(intOf i).toNat);exact⟨0,A7 _,rfl,by simpa[cells]using h,by simp[cells]⟩;obtain⟨k,hk,rfl,hle2,rfl⟩:=hrel;have ah:=DY xs k;by_cases aF:k<xs.length
  ·obtain⟨r,hr⟩:∃r,xs[k]? =some r:=⟨_,A3 aF⟩;obtain⟨b,off,rfl,-,bO⟩:=hc J;obtain⟨u,aW,hu⟩:=bO k _ hr;have hu:Au w u r:=hu;have nK:=L2 hr;have lC:=DY xs (k+1);have sd:=Z nK;by_cases cW:(r.length:Int)≤left-xs.length-cells (xs.take k)
   ·have cV:=OV u r (left-xs.length-cells (xs.take k)) w hu J J;rw[show Cp r.length (left-xs.length-cells (xs.take k))=left-xs.length-cells (xs.take k)-r.length from by simp[Cp,cW]]at cV;have bG:=Z cV;have aZ:0≤left-(xs.length:Int)-cells (xs.take k)-r.length:=J;clear hc bO hr nK hu cV;go_wp2_with fail;refine bG.o.mono ?_;rintro e w' ⟨rfl,rfl⟩;go_wp2
    go_round
    exact⟨k+1,J,by go_num,by rw[sd.o];omega,by rw[sd.o];congr 1;omega⟩;exact Jv
   ·have cV:=OV u r (left-xs.length-cells (xs.take k)) w hu J J;rw[show Cp r.length (left-xs.length-cells (xs.take k))=-1 from by simp[Cp,cW]]at cV;have bG:=Z cV;have dG:Cp (bulk xs) left=-1:=by unfold Cp bulk;rw[if_neg J]
    have Hbig:=Z dG;clear hc bO hr nK hu cV dG;go_wp2_with fail;refine bG.o.mono ?_;rintro e w' ⟨rfl,rfl⟩;go_wp2
    go_ret
    exact⟨CY Hbig.o.symm,rfl⟩
  ·obtain rfl:k=xs.length:=J;rw[List.take_length]at hle2⊢;have hr:=Z (show Cp (bulk xs) left=left-xs.length-cells xs from by unfold Cp bulk;rw[if_pos J];omega);go_wp2
   go_ret
   exact⟨CY hr.o.symm,rfl⟩
 ·have hr:=Z (show Cp (bulk xs) left=-1 from by unfold Cp bulk;rw[if_neg J]);go_enter Tryz.func59,Tryz.ntmps59;go_wp2
  go_ret
  exact⟨CY hr.o.symm,rfl⟩
theorem A1b(v:Value)(xs:I)(w:World)(hv:AI w v xs)(aN:xs.length≤1048576)(ah:cells xs≤1048576):Calls Tryz.prog 69 #[v] w (N7 32 (Ag 3 Ap) w xs):=by
 obtain⟨a,cap,rfl,ae,-,-,hc⟩:=hv;go_enter Tryz.func69,Tryz.ntmps69;go_wp2_with (first|(at_make;refine EJ _ rfl _ _ 31 rfl 32 Tryz.underlying31 EI rfl Jq (R:=Ag 3 Ap) [] (Ag.nil _ _ _ _) (Ab A8) xs.length rfl rfl J ?_;intro w1 aB aA aM));have aC:Ag 32 (Ag 3 Ap) (Iv w.heap.size w1.heap.size) w1 (.slice (some ⟨w.heap.size,0,none⟩) xs.length xs.length) (xs.take 0++List.replicate (xs.length-0) []):=by simpa using aB.qbg (Ab A8) (A2 _) J
 clear aB aM;go_loopw [4] (fun i wr=>∃k:Nat,k≤xs.length∧i=.int .i64 k∧Ag 32 (Ag 3 Ap) (Iv w.heap.size wr.heap.size) wr (.slice (some ⟨w.heap.size,0,none⟩) xs.length xs.length) (xs.take k++List.replicate (xs.length-k) [])∧Below w.heap.size w wr) (fun i _=>xs.length-(intOf i).toNat);exact⟨0,A7 _,rfl,aC,aA⟩;clear aC aA;obtain⟨k,hk,rfl,aB,aA⟩:=hrel;have bD:=aA.size;by_cases aF:k<xs.length
 ·obtain⟨b,off,rfl,hb,bO⟩:=hc J;obtain⟨x,hx⟩:∃x,xs[k]? =some x:=⟨_,A3 aF⟩;obtain⟨u,aW,hu⟩:=bO k x hx;have hu:Au w u x:=hu;have oX:=hu.keep aA;have nK:=L2 hx;have lC:=DY xs (k+1);have l9:x.length≤1048576:=J;have hl:(xs.take k++List.replicate (xs.length-k) ([]:U)).length=xs.length:=by simp;omega
  rw[←aA.cell (p:=⟨b,off+k,none⟩) hb]at aW;have Hx:=Z hx;have Hl:=Z hl;have aC:=Z aB;clear hx hc bO hl aB hu nK;go_wp2_with fail;refine(Sn _ _ _ oX J).mono ?_;rintro e w2 ⟨v2,rfl,hown2,hbel2⟩;have hs2:=hbel2.size;obtain⟨p1,p2,p3,rfl⟩:=hown2.shape;have bI:=Ag.keep (Ab A8) aC.o hbel2 (A2 _);obtain⟨y,hy⟩:∃y,(xs.take k++List.replicate (xs.length-k) ([]:U))[k]? =some y:=⟨_,A3 (by rw[Hl.o];exact aF)⟩;obtain⟨hg,-,-,hf,T,u0,hcell0,-,-,hupd,-⟩:=bI.qal (Ab A8) hy;have bH:=hupd _ _ (Iv wr.heap.size w2.heap.size) (Iv w.heap.size w2.heap.size) hown2 (fun b hb=>⟨⟨by have:=hb.1;omega,hb.2⟩,by have:=hb.1;have:=hg.2;omega⟩) (fun b h1 h2=>by have:=h1.1;have:=h2.2;omega) (fun b h1=>⟨h1.1,by have:=h1.2;omega⟩);rw[A0J Hx.o]at bH;have bq:=Z bH;have wN:=aA.qaa hbel2 (A2 _);clear bI hy hupd bH hown2 aC hg;go_wp2;go_roundw;exact⟨k+1,J,by go_num,by rw[As];exact bq.o,wN.setCell (A2 _) _⟩;exact Jv
 ·have aC:=Z aB;clear aB;go_wp2
  go_ret
  refine⟨_,rfl,?_,aA⟩;have h1:=aC.o;obtain rfl:k=xs.length:=J;simpa using h1
theorem M1{l:List (List α)}{h:List α}(hh:l[0]? =some h):l.headD []=h:=by
 cases l with
 |nil=>simp at hh
 |cons a l=>simpa using hh
theorem A3f(v:Value)(g:I)(lo hi:Int)(w:World)(hv:AI w v g):Calls Tryz.prog 154 #[v,.int .i64 lo,.int .i64 hi] w fun e w'=>e=.returned (.bool (Ds lo hi g))∧w=w':=by
 obtain⟨a,cap,rfl,ae,cJ,-,hc⟩:=hv;cases bV:C1 1 5 g.length
 ·have Hr:=Z (show Ds lo hi g=false from by simp[Ds,bV]);go_enter Tryz.func154,Tryz.ntmps154;go_wp2_with (first|(go_at_call 95;refine(Bi _ _ _ _).mono ?_;rintro e w' ⟨rfl,rfl⟩))
  go_ret
  exact⟨AW Hr.o.symm,rfl⟩
 have hb:=Bz.1 bV;obtain⟨b,off,rfl,-,bO⟩:=hc J;obtain⟨hd,lT⟩:∃hd,g[0]? =some hd:=⟨_,A3 J⟩;obtain⟨u0,hck0,eK⟩:=bO 0 hd lT;obtain⟨a0,cap0,rfl,-⟩:=eK;rw[AF]at hck0;have ou:=Z (M1 lT);have dC:=Z bV;clear lT hb;go_enter Tryz.func154,Tryz.ntmps154;go_wp2_with (first|(go_at_call 95;refine(Bi _ _ _ _).mono ?_;rintro e w' ⟨rfl,rfl⟩));clear bV;go_loop [8,15] (fun _ i=>∃k:Nat,k≤g.length∧i=.int .i64 k∧(g.take k).all (EP lo hi hd.length)=true) (fun _ i=>g.length-(intOf i).toNat);exact⟨0,A7 _,rfl,rfl⟩;obtain⟨k,hk,rfl,aQ⟩:=hrel;have aT:=Z aQ;clear aQ;by_cases aF:k<g.length
 ·obtain⟨r,hr⟩:∃r,g[k]? =some r:=⟨_,A3 aF⟩;obtain⟨u,aW,hu⟩:=bO k r hr;have hu:Au w u r:=hu;obtain⟨ar,capr,rfl,-⟩:=id hu;have Hs:=Z (BX (EP lo hi hd.length) hr);have Hr:=Z hr;clear hr bO hc;by_cases hl:r.length=hd.length
  ·have eJ:r.length≤hd.length:=J;have fl:hd.length≤r.length:=J;have Hl:=Z hl;rw[hl]at aW hu;clear hl;cases bV:C1 1 5 hd.length
   ·have Hf:=Z (show EP lo hi hd.length r=false from by unfold EP;rw[Hl.o,bV];simp);have Hg:=Z (show Ds lo hi g=false from by unfold Ds;rw[ou.o,BM _ Hr.o Hf.o];simp);go_wp2_with (first|(go_at_call 95;refine(Bi _ _ _ _).mono ?_;rintro e w' ⟨rfl,rfl⟩))
    go_ret
    exact⟨AW Hg.o.symm,rfl⟩
   ·cases fm:r.all (C1 lo hi)
    ·have Hf:=Z (show EP lo hi hd.length r=false from by unfold EP;rw[fm];simp);have Hg:=Z (show Ds lo hi g=false from by unfold Ds;rw[ou.o,BM _ Hr.o Hf.o];simp);go_wp2_with (first|(go_at_call 95;refine(Bi _ _ _ _).mono ?_;rintro e w' ⟨rfl,rfl⟩)|(go_at_call 157;refine(C8 _ _ _ _ _ hu).mono ?_;rintro e w' ⟨rfl,rfl⟩))
     go_ret
     exact⟨AW Hg.o.symm,rfl⟩
    ·have Hf:=Z (show EP lo hi hd.length r=true from by unfold EP;rw[fm,Hl.o,bV];simp);go_wp2_with (first|(go_at_call 95;refine(Bi _ _ _ _).mono ?_;rintro e w' ⟨rfl,rfl⟩)|(go_at_call 157;refine(C8 _ _ _ _ _ hu).mono ?_;rintro e w' ⟨rfl,rfl⟩))
     go_round
     exact⟨k+1,J,by go_num,by rw[Hs.o,aT.o,Hf.o];rfl⟩;exact Jv
  ·have Hf:=Z (show EP lo hi hd.length r=false from by unfold EP;simp[hl]);have Hg:=Z (show Ds lo hi g=false from by unfold Ds;rw[ou.o,BM _ Hr.o Hf.o];simp);have aK:((r.length:Int)==(hd.length:Int))=false:=by rw[Ai];omega
   go_wp2_with (first|(go_at_call 95;refine(Bi _ _ _ _).mono ?_;rintro e w' ⟨rfl,rfl⟩)|(go_at_call 157;refine(C8 _ _ _ _ _ hu).mono ?_;rintro e w' ⟨rfl,rfl⟩))
   all_goals try(exfalso;omega)
   go_ret
   exact⟨AW Hg.o.symm,rfl⟩
 ·have Hg:=Z (show Ds lo hi g=true from by unfold Ds;rw[ou.o,dC.o,DR aT.o J];rfl);go_wp2
  go_ret
  exact⟨AW Hg.o.symm,rfl⟩
theorem B8(v:Value)(g:I)(w:World)(hv:AI w v g):Calls Tryz.prog 84 #[v] w fun e w'=>e=.returned (.bool (AC g))∧w=w':=by
 go_enter Tryz.func84,Tryz.ntmps84;go_wp2_with fail;refine(A3f _ _ _ _ _ hv).mono ?_;rintro e w' ⟨rfl,rfl⟩;go_wp2
 go_ret
 exact⟨rfl,rfl⟩
theorem Bh(v:Value)(g:I)(w:World)(hv:AI w v g):Calls Tryz.prog 138 #[v] w fun e w'=>e=.returned (.bool (AC g))∧w=w':=by
 obtain⟨a,cap,rfl,ae,cJ,-,hc⟩:=hv;cases bV:C1 1 5 g.length
 ·have Hr:=Z (show AC g=false from by simp[AC,Ds,bV]);go_enter Tryz.func138,Tryz.ntmps138;go_wp2_with (first|(go_at_call 201;refine(Bd _ _ _ _).mono ?_;rintro e w' ⟨rfl,rfl⟩))
  go_ret
  exact⟨AW Hr.o.symm,rfl⟩
 have hb:=Bz.1 bV;obtain⟨b,off,rfl,-,bO⟩:=hc J;obtain⟨hd,lT⟩:∃hd,g[0]? =some hd:=⟨_,A3 J⟩;obtain⟨u0,hck0,eK⟩:=bO 0 hd lT;obtain⟨a0,cap0,rfl,-⟩:=eK;rw[AF]at hck0;have ou:=Z (M1 lT);have Hhd0:=Z lT;have aZ:0<g.length:=J;clear lT hb;cases hinh:C1 1 5 hd.length
 ·have Hf:=Z (show EP 0 1 hd.length hd=false from by unfold EP;rw[hinh];simp);have Hg:=Z (show AC g=false from by unfold AC Ds;rw[ou.o,BM _ Hhd0.o Hf.o];simp);go_enter Tryz.func138,Tryz.ntmps138;go_wp2_with (first|(go_at_call 201;refine(Bd _ _ _ _).mono ?_;rintro e w' ⟨rfl,rfl⟩))
  go_ret
  exact⟨AW Hg.o.symm,rfl⟩
 have dC:=Z bV;have Hinh:=Z hinh;go_enter Tryz.func138,Tryz.ntmps138;go_wp2_with (first|(go_at_call 201;refine(Bd _ _ _ _).mono ?_;rintro e w' ⟨rfl,rfl⟩));clear bV hinh;go_loop [4,6,21] (fun _ _ i=>∃k:Nat,k≤g.length∧i=.int .i64 k∧(g.take k).all (EP 0 1 hd.length)=true) (fun _ _ i=>g.length-(intOf i).toNat);exact⟨0,A7 _,rfl,rfl⟩;obtain⟨k,hk,rfl,aQ⟩:=hrel;have aT:=Z aQ;clear aQ;by_cases aF:k<g.length
 ·obtain⟨r,hr⟩:∃r,g[k]? =some r:=⟨_,A3 aF⟩;obtain⟨u,aW,hu⟩:=bO k r hr;obtain⟨ar,capr,rfl,hcapr,hler,-,it⟩:=hu;have Hs:=Z (BX (EP 0 1 hd.length) hr);have Hr:=Z hr;clear hr bO hc;by_cases hl:r.length=hd.length
  ·have eJ:r.length≤hd.length:=J;have fl:hd.length≤r.length:=J;have Hl:=Z hl;clear hl;have dM:decide ((k:Int)<(g.length:Int))=true:=by simp;omega
   go_wp2;go_loop [6,34] (fun _ i=>∃j:Nat,j≤r.length∧i=.int .i64 j∧(r.take j).all (C1 0 1)=true) (fun _ i=>r.length-(intOf i).toNat);exact⟨0,A7 _,rfl,rfl⟩;obtain⟨j,hj,rfl,hall2⟩:=hrel;have eV:=Z hall2;clear hall2;by_cases hltj:j<r.length
   ·obtain⟨br,offr,rfl,-,cP⟩:=it J;obtain⟨x,hx⟩:∃x,r[j]? =some x:=⟨_,A3 hltj⟩;obtain⟨ux,fK,rfl,-⟩:=cP j x hx;have eF:=Z (BX (C1 0 1) hx);have Hx:=Z hx;clear hx cP it;by_cases h0:x=0
    ·subst h0;go_wp2
     go_round
     exact⟨j+1,J,by go_num,by rw[eF.o,eV.o];rfl⟩;exact Jv
    ·by_cases h1:x=1
     ·subst h1;go_wp2
      go_round
      exact⟨j+1,J,by go_num,by rw[eF.o,eV.o];rfl⟩;exact Jv
     ·have hxf:C1 0 1 x=false:=by simp[C1];omega
      have Hf:=Z (show EP 0 1 hd.length r=false from by unfold EP;rw[BM _ Hx.o hxf];simp);have Hg:=Z (show AC g=false from by unfold AC Ds;rw[ou.o,BM _ Hr.o Hf.o];simp);have dS:(x==0)=false:=by simpa using h0
      have ep:(x==1)=false:=by simpa using h1
      go_wp2
      go_ret
      exact⟨AW Hg.o.symm,rfl⟩
   ·have Hf:=Z (show EP 0 1 hd.length r=true from by unfold EP;rw[DR eV.o J,Hl.o,Hinh.o];simp);go_wp2
    go_round
    exact⟨k+1,J,by go_num,by rw[Hs.o,aT.o,Hf.o];rfl⟩;exact Jv
  ·have Hf:=Z (show EP 0 1 hd.length r=false from by unfold EP;simp[hl]);have Hg:=Z (show AC g=false from by unfold AC Ds;rw[ou.o,BM _ Hr.o Hf.o];simp);have aK:((r.length:Int)==(hd.length:Int))=false:=by rw[Ai];omega
   go_wp2
   all_goals try(exfalso;omega)
   go_ret
   exact⟨AW Hg.o.symm,rfl⟩
 ·have Hg:=Z (show AC g=true from by unfold AC Ds;rw[ou.o,dC.o,DR aT.o J];rfl);go_wp2
  go_ret
  exact⟨AW Hg.o.symm,rfl⟩
def Je(m:I)(r c y x:Nat):I:=(List.range c).map fun j=>(List.range r).map fun i=>if i<y∨(i=y∧j<x)then(m.getD i []).getD j 0 else 0
def tr(m:I):I:=(List.range (m.headD []).length).map fun j=>(List.range m.length).map fun i=>(m.getD i []).getD j 0
def Mq(m:I):I:=if AC m then tr m else[]
def Ae(m:I):U:=if AC m then m.map AP else[]
def Al(m:I):U:=Ae (Mq m)
theorem Ux(m:I)(r c:Nat):Je m r c 0 0=BJ c r:=by
 simp[Je,BJ,List.map_const']
theorem UP(m:I)(r c y:Nat):Je m r c y c=Je m r c (y+1) 0:=by
 unfold Je;apply List.map_congr_left;intro j hj;apply List.map_congr_left;intro i _;rw[AG]at hj;have:(i<y∨i=y∧j<c)↔(i<y+1∨i=y+1∧j<0):=J;simp only[this]
theorem Yx(m:I)(r c:Nat)(hr:m.length=r)(hc:(m.headD []).length=c):Je m r c r 0=tr m:=by
 unfold Je tr;rw[hr,hc];apply List.map_congr_left;intro j _;apply List.map_congr_left;intro i hi;rw[AG]at hi;rw[if_pos (.inl hi)]
theorem Sh(hx:x<c):(Je m r c y x)[x]? =some ((List.range r).map fun i=>if i<y∨(i=y∧x<x)then(m.getD i []).getD x 0 else 0):=by
 simp[Je,hx]
theorem Yq{z:Int}{q:U}(hx:x<c)(hy:y<r)(aD:m[y]? =some row)(hz:row[x]? =some z)(hq:(Je m r c y x)[x]? =some q):(Je m r c y x).set x (q.set y z)=Je m r c y (x+1):=by
 rw[Sh hx]at hq;obtain rfl:=Option.some.inj hq;apply List.ext_getElem?;intro j;rw[List.getElem?_set];by_cases hj:x=j
 ·subst hj;simp only[if_true];have hl:x<(Je m r c y x).length:=by simp[Je,hx]
  rw[if_pos hl];simp only[Je,Ak,AA hx,Option.map_some]
  congr 1
  apply List.ext_getElem?;intro i;rw[List.getElem?_set];by_cases hi:y=i
  ·subst hi;simp[hy,aD,hz,List.getD]
  ·rw[if_neg hi];by_cases hir:i<r
   ·simp only[Ak,AA hir,Option.map_some];have:(i<y∨i=y∧x<x)↔(i<y∨i=y∧x<x+1):=J;simp only[this]
   ·rw[Am (by simpa using hir),Am (by simpa using hir)]
 ·rw[if_neg hj];by_cases hjc:j<c
  ·simp only[Je,Ak,AA hjc,Option.map_some]
   congr 1
   apply List.map_congr_left;intro i _;have:(i<y∨i=y∧j<x)↔(i<y∨i=y∧j<x+1):=J;simp only[this]
  ·rw[Am (by simpa[Je]using hjc),Am (by simpa[Je]using hjc)]
theorem Ax.head(h:Ax r c m)(h1:1≤r):(m.headD []).length=c:=by
 obtain⟨row,hr,hl,-⟩:=h.row (y:=0) J;rw[M1 hr,hl]
theorem Ax.tr(h:Ax r c m)(h1:1≤r):Ax c r (tr m):=by
 refine⟨by simp only[Go.Proofs.YthmocomfjgmjoaaGreatDoor.tr,h.head h1,Ay,List.length_range],fun row aD=>?_⟩;simp only[Go.Proofs.YthmocomfjgmjoaaGreatDoor.tr,AE,AG]at aD;obtain⟨j,_,rfl⟩:=aD;refine⟨by simp[h.1],fun z hz=>?_⟩;simp only[AE,AG]at hz;obtain⟨i,hi,rfl⟩:=hz;obtain⟨row,aD,-,hb⟩:=h.row (y:=i) (by rw[←h.1];exact hi);simp only[List.getD,aD,Option.getD_some];cases er:row[j]? with
 |none=>simp
 |some z=>simpa using hb z (A4 er)
theorem YG(h:AC m=true):AC (tr m)=true:=by
 obtain⟨r,c,h1,h2,h3,h4,hs⟩:=Az h;exact(hs.tr h1).ok h3 h4 h1 h2
theorem A4P(h:Ax r c m)(h1:1≤r){j:Nat}(hj:j<c):(tr m)[j]? =some ((List.range r).map fun i=>(m.getD i []).getD j 0):=by
 simp only[tr,h.head h1,h.1];simp[hj]
theorem Ax.ext{a b:I}(ha:Ax r c a)(hb:Ax r c b)(h:∀y x,y<r→x<c→(a.getD y []).getD x 0=(b.getD y []).getD x 0):a=b:=by
 apply List.ext_getElem?;intro y;by_cases hy:y<r
 ·obtain⟨p,hp,q9,-⟩:=ha.row hy;obtain⟨q,hq,jf,-⟩:=hb.row hy;rw[hp,hq]
  congr 1
  apply List.ext_getElem?;intro x;by_cases hx:x<c
  ·have:=h y x hy hx;simp only[List.getD,hp,hq,Option.getD_some]at this;rw[A3 J,A3 J]at this⊢;simpa using this
  ·rw[Am J,Am J]
 ·rw[Am (by rw[ha.1];omega),Am (by rw[hb.1];omega)]
theorem Fv(m:I):(Ae m).length≤5:=by
 unfold Ae
 split
 ·rename_i h
  obtain⟨r,c,-,h2,-,-,hs⟩:=Az h;simp[hs.1,h2]
 ·simp
theorem Ax.small(h:Ax r c m)(hc:c≤5)(hr:row∈m):IP row:=by
 obtain⟨e,hb⟩:=h.2 row hr;exact⟨J,fun x hx=>by have:=hb x hx;omega⟩
theorem Ax.qbz(h:Ax r c m)(hr:row∈m):∀k,k≤row.length→0≤AP (row.take k)∧AP (row.take k)≤k:=by
 obtain⟨e,hb⟩:=h.2 row hr;intro k;induction k with
 |zero=>intro _;simp[AP]
 |succ k ih=>
  intro hk;have h1:=ih J;rw[GG (A3 (show k<row.length by omega))];have:=hb _ (List.getElem_mem (show k<row.length by omega));omega
theorem Ax.qbs(h:Ax r c m)(hr:row∈m):0≤AP row∧AP row≤row.length:=by
 have:=h.qbz hr row.length (A2 _);rwa[PT (A2 _)]at this
theorem Kx(r c:Nat)(w:World)(hr:r≤1048576)(hc:c≤1048576):Calls Tryz.prog 105 #[.int .i64 r,.int .i64 c] w (N7 32 (Ag 3 Ap) w (BJ r c)):=by
 go_enter Tryz.func105,Tryz.ntmps105;go_wp2;go_loopw [5,6] (fun v i wr=>∃k:Nat,k≤r∧i=.int .i64 k∧Ag 32 (Ag 3 Ap) (Iv w.heap.size wr.heap.size) wr v (BJ k c)∧Below w.heap.size w wr) (fun _ i _=>r-(intOf i).toNat);exact⟨0,A7 _,rfl,Ag.nil _ _ _ _,A6 _ _⟩;obtain⟨k,hk,rfl,aB,aA⟩:=hrel;have bD:=aA.size;have aC:=Z aB;clear aB;by_cases aF:k<r
 ·have au:(BJ k c).length<1099511627776:=by simp[BJ];omega
  go_wp2_with (first|(at_make;refine EJ _ rfl _ _ 32 rfl 3 Tryz.underlying32 Bg rfl Jq (R:=Ap) 0 ⟨rfl,Cc.small Jq Jq⟩ A8 c rfl rfl J ?_;intro w1 aw hbel1 cn;have fN:=Z cn;clear cn)|(at_builtin;(refine AH rfl _ _ 31 rfl (Ab A8) 32 Tryz.underlying31 EI rfl Jq w.heap.size wr.heap.size bD hbel1.size rfl rfl (by exact Ag.keep (Ab A8) aC.o hbel1 (A2 _)) (by exact aw.qbg A8 (A2 _) (by rw[fN.o];omega)) au ?_);intro v2 w2 hown2 hbel2 _)|fail);have af:=(aA.trans (hbel1.mono bD)).trans hbel2;have aX:=Z hown2;clear hown2;go_wp2;go_roundw;exact⟨k+1,J,by go_num,by simpa[BJ,List.replicate_succ']using aX.o,af⟩;exact Jv
 ·go_wp2
  go_ret
  obtain rfl:k=r:=J;exact⟨_,rfl,aC.o,aA⟩
theorem Fu(F0:Nat)(eS:F0=88∨F0=198)(v:Value)(m:I)(w:World)(hv:AI w v m):Calls Tryz.prog F0 #[v] w (N7 32 (Ag 3 Ap) w (Mq m)):=by
 rcases eS with rfl|rfl
 all_goals
  have Hv:=Z hv;obtain⟨a,cap0,rfl,ae,cJ,-,hc⟩:=hv;cases hok:AC m
  ·have Hr:=Z (show Mq m=[]from by simp[Mq,hok]);have aR:=Z hok;clear hok
   first|go_enter Tryz.func88,Tryz.ntmps88|go_enter Tryz.func198,Tryz.ntmps198
   go_wp2_with fail
   first|(go_at_call 84;refine(B8 _ _ _ Hv.o).mono ?_)|(refine(Bh _ _ _ Hv.o).mono ?_)
   rintro e w' ⟨rfl,rfl⟩;rw[aR.o];go_wp2
   go_ret
   exact⟨_,rfl,by rw[Hr.o];exact Ag.nil _ _ _ _,A6 _ _⟩
  have Hr:=Z (show Mq m=tr m from by simp[Mq,hok]);obtain⟨r,c,hr1,hr5,hc1,hc5,an⟩:=Az hok;have bF:m.length=r:=an.1;have kX:=Z bF;have mg:=Z (an.head hr1);obtain⟨ft,bE,hrl0,-⟩:=an.row (y:=0) J;obtain⟨b,off,rfl,hb,bO⟩:=hc J;obtain⟨u0,hck0,eK⟩:=bO 0 ft bE;obtain⟨a0,cp0,rfl,-⟩:=eK;rw[hrl0,AF]at hck0;rw[bF]at ae cJ⊢;have aR:=Z hok;have Hv:=Hv;rw[bF]at Hv;clear hc bO bE hrl0 bF hok
  first|go_enter Tryz.func88,Tryz.ntmps88|go_enter Tryz.func198,Tryz.ntmps198
  go_wp2_with fail
  first|(go_at_call 84;refine(B8 _ _ _ Hv.o).mono ?_)|(refine(Bh _ _ _ Hv.o).mono ?_)
  rintro e w' ⟨rfl,rfl⟩;rw[aR.o];go_wp2_with fail
  first|(go_at_call 105;refine(Kx c r _ J J).mono ?_)|(refine(KN c r _ J J).mono ?_)
  rintro e w1 ⟨v1,rfl,aB,aA⟩;have cQ:=aA.size;obtain⟨G,cap,rfl,hG,hcapG,hGs,-⟩:=aB.qac (by simp[BJ];omega);have iA:(BJ c r).length=c:=by simp[BJ]
  rw[iA]at hcapG aB⊢;rw[←Ux m r c]at aB;have aC:=Z aB;clear aB iA;go_wp2;go_loopw [4,5,6,7,20] (fun _ _ _ _ i wr=>∃k:Nat,k≤r∧i=.int .i64 k∧Ag 32 (Ag 3 Ap) (Iv w.heap.size w1.heap.size) wr (.slice (some ⟨G,0,none⟩) c cap) (Je m r c k 0)∧Below w.heap.size w wr∧w1.heap.size≤wr.heap.size) (fun _ _ _ _ i _=>r-(intOf i).toNat);exact⟨0,A7 _,rfl,aC.o,aA,A2 _⟩;clear aC aA;obtain⟨k,hk,rfl,aB,aA,aM⟩:=hrel;by_cases aF:k<r
  ·obtain⟨row,aD,aj,eE⟩:=an.row aF;obtain⟨u,aW,hu⟩:=Sl.at Hv.o aD;have hu:Au w u row:=hu;obtain⟨br,offr,cpr,rfl,dL,bA⟩:=hu.qac J;rw[←aA.cell (p:=⟨b,off+k,none⟩) hb]at aW;rw[aj]at aW hu;have aC:=Z aB;have da:=Z aD;have iu:=Z aj;have Hu:=Z hu;clear aB aD aj hu;have rC:decide ((k:Int)<(r:Int))=true:=by simp;omega
   go_wp2;obtain⟨wo,hwo⟩:∃wo:World,wo=wr:=⟨_,rfl⟩;clear aW;go_loopw [6,7,27] (fun _ _ i wr=>∃j:Nat,j≤c∧i=.int .i64 j∧Ag 32 (Ag 3 Ap) (Iv w.heap.size w1.heap.size) wr (.slice (some ⟨G,0,none⟩) c cap) (Je m r c k j)∧Below w.heap.size w wr∧w1.heap.size≤wr.heap.size) (fun _ _ i _=>c-(intOf i).toNat);exact⟨0,A7 _,rfl,aC.o,aA,aM⟩;clear aC aA aM hwo;obtain⟨j,hj,rfl,aB,aA,aM⟩:=hrel;by_cases hltj:j<c
   ·obtain⟨z,hz⟩:∃z,row[j]? =some z:=⟨_,A3 (by rw[iu.o];exact hltj)⟩;have ik:=eE z (A4 hz);have oI:=Au.at Hu.o hz;rw[←aA.cell (p:=⟨br,offr+j,none⟩) dL]at oI;have hq:=Sh (m:=m) (r:=r) (c:=c) (y:=k) hltj;obtain⟨q,cq,aH,-,hSq,hqG,dj,hx,-,ai⟩:=AV aB hq (by simp;omega);have jf:((List.range r).map fun i=>if i<k∨(i=k∧j<j)then(m.getD i []).getD j 0 else 0).length=r:=Jj;rw[jf]at aH dj hx;obtain⟨⟨o,kv⟩,g8⟩:=hx k aF;have bH:=ai wr (fun _ _=>rfl) k z (by rw[jf];exact aF) (Cc.small J J);rw[Yq hltj aF da.o hz hq]at bH;have bq:=Z bH;have gT:=hSq.1;clear aB hz hq hx ai jf bH;go_wp2;go_roundw;exact⟨j+1,J,by go_num,bq.o,aA.setCell gT _,by rw[As];exact aM⟩;exact Jv
   ·obtain rfl:j=c:=J;rw[UP]at aB;have aC:=Z aB;clear aB;go_wp2;go_roundw;exact⟨k+1,J,by go_num,aC.o,aA,aM⟩;exact Jv
  ·have aC:=Z aB;clear aB;go_wp2
   go_ret
   obtain rfl:k=r:=J;refine⟨_,rfl,?_,aA⟩;rw[Hr.o,←Yx m k c kX.o mg.o];exact(Ab (Ab A8)).mono (fun b hb=>⟨hb.1,Aa hb.2 aM⟩) aC.o
theorem Np(h:m[k]? =some row):(m.take (k+1)).map AP=(m.take k).map AP++[AP row]:=by
 rw[Ao,h];simp
theorem Po(h:AC m=true)(hk:m.length≤k):(m.take k).map AP=Ae m:=by
 rw[A9 hk,Ae,if_pos h]
theorem Ei(v:Value)(m:I)(w:World)(hv:AI w v m):Calls Tryz.prog 33 #[v] w (N7 3 Ap w (Ae m)):=by
 have Hv:=Z hv;obtain⟨a,cap0,rfl,ae,cJ,-,hc⟩:=hv;cases hok:AC m
 ·have Hr:=Z (show Ae m=[]from by simp[Ae,hok]);have aR:=Z hok;clear hok;go_enter Tryz.func33,Tryz.ntmps33;go_wp2_with fail;refine(B8 _ _ _ Hv.o).mono ?_;rintro e w' ⟨rfl,rfl⟩;rw[aR.o];go_wp2
  go_ret
  exact⟨_,rfl,by rw[Hr.o];exact Ag.nil _ _ _ _,A6 _ _⟩
 obtain⟨r,c,hr1,hr5,hc1,hc5,an⟩:=Az hok;have bF:m.length≤5:=by have:=an.1;omega
 have rR:1≤m.length:=by have:=an.1;omega
 obtain⟨b,off,rfl,hb,bO⟩:=hc J;have aR:=Z hok;clear hc bO hok;go_enter Tryz.func33,Tryz.ntmps33;go_wp2_with fail;refine(B8 _ _ _ Hv.o).mono ?_;rintro e w' ⟨rfl,rfl⟩;rw[aR.o];go_wp2;go_loopw [3,5,11] (fun v _ i wr=>∃k:Nat,k≤m.length∧i=.int .i64 k∧Ag 3 Ap (Iv w.heap.size wr.heap.size) wr v ((m.take k).map AP)∧Below w.heap.size w wr) (fun _ _ i _=>m.length-(intOf i).toNat);exact⟨0,A7 _,rfl,Ag.nil _ _ _ _,A6 _ _⟩;obtain⟨k,hk,rfl,aB,aA⟩:=hrel;have bD:=aA.size;by_cases aF:k<m.length
 ·obtain⟨row,aD⟩:∃row,m[k]? =some row:=⟨_,A3 aF⟩;obtain⟨u,aW,hu⟩:=Sl.at Hv.o aD;have hu:Au w u row:=hu;obtain⟨br,cpr,rfl,-⟩:=id hu;rw[←aA.cell (p:=⟨b,off+k,none⟩) hb]at aW;have gp:=an.small hc5 (A4 aD);have fR:=an.qbs (A4 aD);have aj:=(an.2 row (A4 aD)).1;have fZ:0≤AP row:=fR.1;have cQ:AP row≤5:=J;have aG:=Z (Np aD);have Hu:=Z (hu.keep aA);have au:((m.take k).map AP).length<1099511627776:=by simp;omega
  have aC:=Z aB;clear aD hu aB aj fR;go_wp2_with (first|(go_at_call 87;refine(Gm _ _ _ Hu.o gp).mono ?_;rintro e w' ⟨rfl,rfl⟩)|(at_builtin;(refine AH rfl _ _ 32 rfl A8 3 Tryz.underlying32 Bg rfl Jq w.heap.size wr.heap.size bD (A2 _) rfl rfl (by exact aC.o) (by exact⟨rfl,Cc.small J J⟩) au ?_);intro v2 w2 hown2 hbel2 _)|fail);have aX:=Z hown2;clear hown2;go_wp2;go_roundw;exact⟨k+1,J,by go_num,by rw[aG.o];exact aX.o,aA.trans hbel2⟩;exact Jv
 ·have aU:=Z (Po aR.o (show m.length≤k by omega));have aC:=Z aB;clear aB;go_wp2
  go_ret
  exact⟨_,rfl,by rw[←aU.o];exact aC.o,aA⟩
theorem FSa(v:Value)(m:I)(w:World)(hv:AI w v m):Calls Tryz.prog 140 #[v] w (N7 3 Ap w (Ae m)):=by
 have Hv:=Z hv;obtain⟨a,cap0,rfl,ae,cJ,-,hc⟩:=hv;cases hok:AC m
 ·have Hr:=Z (show Ae m=[]from by simp[Ae,hok]);have aR:=Z hok;clear hok;go_enter Tryz.func140,Tryz.ntmps140;go_wp2_with fail;refine(Bh _ _ _ Hv.o).mono ?_;rintro e w' ⟨rfl,rfl⟩;rw[aR.o];go_wp2
  go_ret
  exact⟨_,rfl,by rw[Hr.o];exact Ag.nil _ _ _ _,A6 _ _⟩
 obtain⟨r,c,hr1,hr5,hc1,hc5,an⟩:=Az hok;have bF:m.length≤5:=by have:=an.1;omega
 have rR:1≤m.length:=by have:=an.1;omega
 obtain⟨b,off,rfl,hb,bO⟩:=hc J;have aR:=Z hok;clear hc bO hok;go_enter Tryz.func140,Tryz.ntmps140;go_wp2_with fail;refine(Bh _ _ _ Hv.o).mono ?_;rintro e w' ⟨rfl,rfl⟩;rw[aR.o];go_wp2;go_loopw [3,5,6,8,15] (fun v _ _ _ i wr=>∃k:Nat,k≤m.length∧i=.int .i64 k∧Ag 3 Ap (Iv w.heap.size wr.heap.size) wr v ((m.take k).map AP)∧Below w.heap.size w wr) (fun _ _ _ _ i _=>m.length-(intOf i).toNat);exact⟨0,A7 _,rfl,BK _ _ _ A8,Below.qab _ _⟩;obtain⟨k,hk,rfl,aB,aA⟩:=hrel;have bD:=aA.size;by_cases aF:k<m.length
 ·obtain⟨row,aD⟩:∃row,m[k]? =some row:=⟨_,A3 aF⟩;obtain⟨u,aW,hu⟩:=Sl.at Hv.o aD;have hu:Au w u row:=hu;have aj:=(an.2 row (A4 aD)).1;obtain⟨br,offr,cpr,rfl,dL,-⟩:=hu.qac J;rw[←aA.cell (p:=⟨b,off+k,none⟩) hb]at aW;have wO:=an.qbz (A4 aD);have rS:row.length≤5:=J;have aG:=Z (Np aD);have wP:=Z wO;have Hu:=Z (hu.keep aA);have au:((m.take k).map AP).length<1099511627776:=by simp;omega
  have aC:=Z aB;have Hbv:=Z (an.2 row (A4 aD)).2;clear aD hu aB aj wO;have rC:decide ((k:Int)<(m.length:Int))=true:=by simp;omega
  go_wp2;go_loop [6,8,21] (fun s _ i=>∃j:Nat,j≤row.length∧i=.int .i64 j∧s=.int .i64 (AP (row.take j))) (fun _ _ i=>row.length-(intOf i).toNat);exact⟨0,A7 _,rfl,rfl⟩;obtain⟨j,hj,rfl,rfl⟩:=hrel;have bu:=(wP.o j hj).1;have dK:=(wP.o j hj).2;by_cases hltj:j<row.length
  ·obtain⟨x,hx⟩:∃x,row[j]? =some x:=⟨_,A3 hltj⟩;have fK:=Au.at Hu.o hx;have eR:=(Hbv.o x (A4 hx)).1;have bj:=(Hbv.o x (A4 hx)).2;have pT:=Z (GG hx);clear hx;go_wp2
   go_round
   exact⟨j+1,J,by go_num,by rw[pT.o]⟩;exact Jv
  ·obtain rfl:j=row.length:=J;rw[List.take_length]at bu dK⊢;go_wp2_with (first|(at_builtin;(refine AH rfl _ _ 32 rfl A8 3 Tryz.underlying32 Bg rfl Jq w.heap.size wr.heap.size bD (A2 _) rfl rfl (by exact aC.o) (by exact⟨rfl,Cc.small J J⟩) au ?_);intro v2 w2 hown2 hbel2 _)|fail);have aX:=Z hown2;clear hown2;go_wp2;go_roundw;exact⟨k+1,J,by go_num,by rw[aG.o];exact aX.o,aA.trans hbel2⟩;exact Jv
 ·have aU:=Z (Po aR.o (show m.length≤k by omega));have aC:=Z aB;clear aB;go_wp2
  go_ret
  exact⟨_,rfl,by rw[←aU.o];exact aC.o,aA⟩
theorem CQ(F0:Nat)(eS:F0=34∨F0=141)(v:Value)(m:I)(w:World)(hv:AI w v m):Calls Tryz.prog F0 #[v] w (N7 3 Ap w (Al m)):=by
 rcases eS with rfl|rfl
 all_goals
  first|go_enter Tryz.func34,Tryz.ntmps34|go_enter Tryz.func141,Tryz.ntmps141
  go_wp2_with fail
  first|(go_at_call 88;refine(Fu 88 (.inl rfl) _ _ _ hv).mono ?_)|(refine(Fu 198 (.inr rfl) _ _ _ hv).mono ?_)
  rintro e w1 ⟨v1,rfl,aB,aA⟩;have cQ:=aA.size;go_wp2_with fail
  first|(go_at_call 33;refine(Ei _ _ _ aB.qag).mono ?_)|(refine(FSa _ _ _ aB.qag).mono ?_)
  rintro e w2 ⟨v2,rfl,hown2,hbel2⟩;have aX:=Z hown2;clear hown2;go_wp2
  go_ret
  exact⟨_,rfl,(Ab A8).mono (fun b hb=>⟨Aj cQ hb.1,hb.2⟩) aX.o,aA.qaa hbel2 (A2 _)⟩
def Gt(n:Int)(ru:U):Bool:=ru.all (C1 1 5)&&decide (AP ru+ru.length-1≤n)
def Bv(rows cols:I):Bool:=C1 1 5 rows.length&&C1 1 5 cols.length&&rows.all (Gt cols.length)&&cols.all (Gt rows.length)
theorem NU(h:xs.all (C1 1 5)=true):∀k,k≤xs.length→(k:Int)≤AP (xs.take k)∧AP (xs.take k)≤5*k:=by
 rw[Ar]at h;intro k;induction k with
 |zero=>intro _;simp[AP]
 |succ k ih=>
  intro hk;have h1:=ih J;rw[GG (A3 (show k<xs.length by omega))];have:=Bz.1 (h _ (List.getElem_mem (show k<xs.length by omega)));omega
theorem IJ(r c:Int)(w:World):Calls Tryz.prog 257 #[.int .i64 r,.int .i64 c] w fun e w'=>e=.returned (.bool (C1 1 5 r&&C1 1 5 c))∧w=w':=by
 cases h1:C1 1 5 r
 ·have H1:=Z h1;clear h1;go_enter Tryz.func257,Tryz.ntmps257;go_wp2_with (first|(go_at_call 201;refine(Bd _ _ _ _).mono ?_;rintro e w' ⟨rfl,rfl⟩;(try rw[H1.o])))
  go_ret
  exact⟨rfl,rfl⟩
 ·have H1:=Z h1;clear h1;go_enter Tryz.func257,Tryz.ntmps257;go_wp2_with fail;refine(Bd _ _ _ _).mono ?_;rintro e w' ⟨rfl,rfl⟩;rw[H1.o];go_wp2_with fail;refine(Bd _ _ _ _).mono ?_;rintro e w' ⟨rfl,rfl⟩;go_wp2
  go_ret
  exact⟨rfl,rfl⟩
theorem MO(v:Value)(xs:U)(n:Nat)(w:World)(hv:Au w v xs)(ep:1≤n)(hn5:n≤5):Calls Tryz.prog 298 #[v,.int .i64 n] w fun e w'=>e=.returned (.bool (Gt n xs))∧w=w':=by
 have Hv:=Z hv;obtain⟨a,cap,rfl,ae,cJ,-,-⟩:=hv;by_cases hl:(n:Int)<xs.length
 ·have cW:Gt n xs=false:=by
   unfold Gt;cases aQ:xs.all (C1 1 5)
   ·rfl
   ·have:=(NU aQ xs.length (A2 _)).1;rw[List.take_length]at this;simp;omega
  have ed:=Z cW;clear cW;go_enter Tryz.func298,Tryz.ntmps298;go_wp2
  go_ret
  exact⟨AW ed.o.symm,rfl⟩
 ·have hl5:xs.length≤5:=J;go_enter Tryz.func298,Tryz.ntmps298;go_wp2;go_loop [5,7,17] (fun s _ i=>∃k:Nat,k≤xs.length∧i=.int .i64 k∧s=.int .i64 (AP (xs.take k)+xs.length-1)∧(xs.take k).all (C1 1 5)=true) (fun _ _ i=>xs.length-(intOf i).toNat);exact⟨0,A7 _,rfl,by simp[AP],rfl⟩;obtain⟨k,hk,rfl,rfl,aQ⟩:=hrel;have dr:=NU aQ k (by simp;omega);rw[List.take_take,Nat.min_self]at dr;have fZ:=dr.1;have cQ:=dr.2;have aT:=Z aQ;clear dr aQ;by_cases aF:k<xs.length
  ·obtain⟨x,hx⟩:∃x,xs[k]? =some x:=⟨_,A3 aF⟩;obtain⟨b,off,cpr,he,hb,-⟩:=Hv.o.qac J;obtain⟨rfl,-⟩:a=some ⟨b,off,none⟩∧cap=cpr:=by simpa using he
   have fK:=Au.at Hv.o hx;have aG:=Z (GG hx);have i7:=Z (BX (C1 1 5) hx);have Hx:=Z hx;clear hx he;cases bV:C1 1 5 x
   ·have dC:=Z bV;clear bV;have Hf:=Z (show Gt n xs=false from by unfold Gt;rw[BM _ Hx.o dC.o];rfl);go_wp2_with (first|(go_at_call 201;refine(Bd _ _ _ _).mono ?_;rintro e w' ⟨rfl,rfl⟩;rw[dC.o]))
    go_ret
    exact⟨AW Hf.o.symm,rfl⟩
   ·have fq:=Bz.1 bV;have bj:=fq.1;have jU:=fq.2;have dC:=Z bV;clear bV fq;go_wp2_with (first|(go_at_call 201;refine(Bd _ _ _ _).mono ?_;rintro e w' ⟨rfl,rfl⟩;rw[dC.o]))
    go_round
    exact⟨k+1,J,by go_num,by rw[aG.o];congr 1;omega,by rw[i7.o,aT.o,dC.o];rfl⟩;exact Jv
  ·obtain rfl:k=xs.length:=J;rw[List.take_length]at fZ cQ⊢;have Hf:=Z (show Gt n xs=decide (AP xs+xs.length-1≤n)from by unfold Gt;rw[DR aT.o (A2 _)];rfl);go_wp2
   go_ret
   exact⟨AW Hf.o.symm,rfl⟩
theorem A2c(h:xs.all (C1 1 5)=true)(hl:xs.length≤1048576):IP xs:=⟨hl,fun x hx=>by rw[Ar]at h;have:=Bz.1 (h x hx);omega⟩
theorem Uk(v:Value)(g:I)(n:Nat)(w:World)(hv:AI w v g)(hn5:n≤5)(hl:∀r∈g,r.length≤1048576):Calls Tryz.prog 246 #[v,.int .i64 n] w fun e w'=>e=.returned (.bool (g.all (Gt n)))∧w=w':=by
 have Hv:=Z hv;obtain⟨a,cap,rfl,ae,cJ,-,-⟩:=hv;go_enter Tryz.func246,Tryz.ntmps246;go_wp2;go_loop [6,9] (fun _ i=>∃k:Nat,k≤g.length∧i=.int .i64 k∧(g.take k).all (Gt n)=true) (fun _ i=>g.length-(intOf i).toNat);exact⟨0,A7 _,rfl,rfl⟩;obtain⟨k,hk,rfl,aQ⟩:=hrel;have aT:=Z aQ;clear aQ;by_cases aF:k<g.length
 ·obtain⟨r,hr⟩:∃r,g[k]? =some r:=⟨_,A3 aF⟩;obtain⟨b,off,cpr,he,hb,-⟩:=Hv.o.qac J;obtain⟨rfl,-⟩:a=some ⟨b,off,none⟩∧cap=cpr:=by simpa using he
  obtain⟨u,aW,hu⟩:=Sl.at Hv.o hr;have hu:Au w u r:=hu;obtain⟨ar,cpr,rfl,-⟩:=id hu;have aj:=hl r (A4 hr);have i7:=Z (BX (Gt n) hr);have Hr:=Z hr;have Hu:=Z hu;clear hr he hu hl;cases bV:r.all (C1 1 5)
  ·have dC:=Z bV;clear bV;have Hf:=Z (show g.all (Gt n)=false from BM _ Hr.o (by unfold Gt;rw[dC.o];rfl));go_wp2_with (first|(go_at_call 157;refine(C8 _ _ _ _ _ Hu.o).mono ?_;rintro e w' ⟨rfl,rfl⟩;rw[dC.o]))
   go_ret
   exact⟨AW Hf.o.symm,rfl⟩
  ·have gp:=A2c bV aj;have dr:=NU bV r.length (A2 _);rw[List.take_length]at dr;have fZ:=dr.1;have cQ:=dr.2;have dC:=Z bV;clear bV dr;have mS:=Z gp;clear gp;by_cases ox:(n:Int)<AP r+r.length-1
   ·have Hf:=Z (show g.all (Gt n)=false from BM _ Hr.o (by unfold Gt;rw[dC.o];simp;omega));go_wp2_with (first|(go_at_call 157;refine(C8 _ _ _ _ _ Hu.o).mono ?_;rintro e w' ⟨rfl,rfl⟩;rw[dC.o])|(go_at_call 87;refine(Gm _ _ _ Hu.o mS.o).mono ?_;rintro e w' ⟨rfl,rfl⟩))
    go_ret
    exact⟨AW Hf.o.symm,rfl⟩
   ·have Hf:=Z (show Gt n r=true from by unfold Gt;rw[dC.o];simp;omega);go_wp2_with (first|(go_at_call 157;refine(C8 _ _ _ _ _ Hu.o).mono ?_;rintro e w' ⟨rfl,rfl⟩;rw[dC.o])|(go_at_call 87;refine(Gm _ _ _ Hu.o mS.o).mono ?_;rintro e w' ⟨rfl,rfl⟩))
    go_round
    exact⟨k+1,J,by go_num,by rw[i7.o,aT.o,Hf.o];rfl⟩;exact Jv
 ·have Hf:=Z (show g.all (Gt n)=true from DR aT.o J);go_wp2
  go_ret
  exact⟨AW Hf.o.symm,rfl⟩

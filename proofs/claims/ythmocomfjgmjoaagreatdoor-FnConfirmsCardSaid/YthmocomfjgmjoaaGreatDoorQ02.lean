/- Base. -/
import Derived.Test.YthmocomfjgmjoaaGreatDoorRows
import Derived.Test.YthmocomfjgmjoaaGreatDoorQ01
import Derived.WalkLawsBesides
import Derived.WalkSpells
import Derived.BigQuiet
import Derived.BigGuardPart
import Derived.Deep.RegionHeld3
set_option maxHeartbeats 1000000
set_option maxRecDepth 100000
namespace Go.Proofs.YthmocomfjgmjoaaGreatDoor
open Go.RowKit
theorem As:(Tryz.prog.info? 3).map (fun i=>(i.zero,i.size,i.bytes))=some (some (.int .i64 0),1,8):=by kernel_rfl
theorem A4k(w:World)(n q:Nat):∃m,(w.drewN n).drewN q=w.drewN m:=⟨n+q,World.drewN_drewN _ _ _⟩
theorem A4o{w wr:World}{n:Nat}(h:wr=w.drewN n)(q:Nat):∃m,wr.drewN q=w.drewN m:=⟨n+q,by rw[h];exact World.drewN_drewN _ _ _⟩
theorem AI{b b':Bool}(h:b=b'):Ending.returned (.bool b)=Ending.returned (.bool b'):=by rw[h]
theorem CM{n n':Int}(h:n=n'):Ending.returned (.int .i64 n)=Ending.returned (.int .i64 n'):=by rw[h]
def BR(lo hi n:Int):Bool:=decide (lo≤n)&&decide (n≤hi)
theorem Fg{lo hi n:Int}(h1:lo≤n)(h2:n≤hi):BR lo hi n=true:=by simp[BR,h1,h2]
theorem AT{lo hi n:Int}:BR lo hi n=true↔lo≤n∧n≤hi:=by simp[BR]
theorem B6(n lo hi:Int)(w:World):Calls Tryz.prog 95 #[.int .i64 n,.int .i64 lo,.int .i64 hi] w fun e w'=>e=.returned (.bool (BR lo hi n))∧w=w':=by
 by_cases h1:lo≤n
 ·by_cases h2:n≤hi
  ·have h:BR lo hi n=true:=by simp[BR,h1,h2]
   rw[h];clear h;go_enter Tryz.func95,Tryz.ntmps95;go_wp2
   go_ret
   exact⟨rfl,rfl⟩
  ·have h:BR lo hi n=false:=by simp[BR,h2]
   rw[h];clear h;go_enter Tryz.func95,Tryz.ntmps95;go_wp2
   go_ret
   exact⟨rfl,rfl⟩
 ·have h:BR lo hi n=false:=by simp[BR,h1]
  rw[h];clear h;go_enter Tryz.func95,Tryz.ntmps95;go_wp2
  go_ret
  exact⟨rfl,rfl⟩
theorem AR(n lo hi:Int)(w:World):Calls Tryz.prog 201 #[.int .i64 n,.int .i64 lo,.int .i64 hi] w fun e w'=>e=.returned (.bool (BR lo hi n))∧w=w':=by
 by_cases h1:lo≤n
 ·by_cases h2:n≤hi
  ·have h:BR lo hi n=true:=by simp[BR,h1,h2]
   rw[h];clear h;go_enter Tryz.func201,Tryz.ntmps201;go_wp2
   go_ret
   exact⟨rfl,rfl⟩
  ·have h:BR lo hi n=false:=by simp[BR,h2]
   rw[h];clear h;go_enter Tryz.func201,Tryz.ntmps201;go_wp2
   go_ret
   exact⟨rfl,rfl⟩
 ·have h:BR lo hi n=false:=by simp[BR,h1]
  rw[h];clear h;go_enter Tryz.func201,Tryz.ntmps201;go_wp2
  go_ret
  exact⟨rfl,rfl⟩
theorem BO{α:Type}(p:α→Bool){xs:List α}{k:Nat}{x:α}(h:xs[k]? =some x):(xs.take (k+1)).all p=((xs.take k).all p&&p x):=by
 obtain⟨hk,hx⟩:=List.getElem?_eq_some_iff.1 h;rw[List.take_succ_eq_append_getElem hk,List.all_append,hx];simp
theorem DK{α:Type}{p:α→Bool}{xs:List α}{k:Nat}(h:(xs.take k).all p=true)(hk:xs.length≤k):xs.all p=true:=by
 rw[List.take_of_length_le hk] at h;exact h
theorem BH{α:Type}(p:α→Bool){xs:List α}{k:Nat}{x:α}(h:xs[k]? =some x)(hp:p x=false):xs.all p=false:=by
 rw[List.all_eq_false];exact⟨x,List.mem_of_getElem? h,by simp[hp]⟩
theorem C6(v:Value)(xs:List Int)(lo hi:Int)(w:World)(hv:Ab w v xs):Calls Tryz.prog 157 #[v,.int .i64 lo,.int .i64 hi] w fun e w'=>e=.returned (.bool (xs.all (BR lo hi)))∧w=w':=by
 obtain⟨a,cap,rfl,ak,cY,-,hc⟩:=hv;go_enter Tryz.func157,Tryz.ntmps157;go_wp2
 go_loop [8,11] (fun _ i=>∃k:Nat,k≤xs.length∧i=.int .i64 k∧(xs.take k).all (BR lo hi)=true) (fun _ i=>xs.length-(intOf i).toNat)
 case atStart=>exact⟨0,Nat.zero_le _,rfl,rfl⟩
 case round=>
  obtain⟨k,hk,rfl,aR⟩:=hrel;have aY:=Z aR;clear aR;by_cases aH:k<xs.length
  ·obtain⟨b,off,rfl,-,bQ⟩:=hc (by omega);obtain⟨x,hx⟩:∃x,xs[k]? =some x:=⟨_,List.getElem?_eq_getElem aH⟩;obtain⟨u,aQ,rfl,-⟩:=bQ k x hx;have Hs:=Z (BO (BR lo hi) hx);have Hx:=Z hx;clear hx hc bQ;cases cA:BR lo hi x
   ·have dM:=Z cA;go_wp2_with (first|(go_at_call 95;refine(B6 _ _ _ _).mono ?_;rintro e w' ⟨rfl,rfl⟩))
    go_ret
    exact⟨AI (BH _ Hx.o dM.o).symm,rfl⟩
   ·have dM:=Z cA;go_wp2_with (first|(go_at_call 95;refine(B6 _ _ _ _).mono ?_;rintro e w' ⟨rfl,rfl⟩))
    go_round
    case rel=>exact⟨k+1,by omega,by go_num,by rw[Hs.o,aY.o,dM.o];rfl⟩
    case measure=>simp[intOf];omega
  ·go_wp2
   go_ret
   exact⟨AI (DK aY.o (by omega)).symm,rfl⟩
def M7{α:Type}(E:TypeId)(R:CG α)(w:World)(xs:List α)(e:Ending)(w':World):Prop:=
 ∃v',e=.returned v'∧A4 E R (Iv w.heap.size w'.heap.size) w' v' xs∧Below w.heap.size w w'
theorem Yo{xs:List Int}{k:Nat}{x:Int}(h:xs[k]? =some x):(xs.take k++List.replicate (xs.length-k) 0).set k x=xs.take (k+1)++List.replicate (xs.length-(k+1)) 0:=by
 obtain⟨hk,hx⟩:=List.getElem?_eq_some_iff.1 h;obtain⟨d,hd⟩:∃d,xs.length-k=d+1:=⟨xs.length-k-1,by omega⟩;rw[hd,show xs.length-(k+1)=d from by omega,List.set_append_right _ _ (by simp;omega),List.length_take,Nat.min_eq_left (Nat.le_of_lt hk),Nat.sub_self,List.replicate_succ,List.set_cons_zero,List.take_succ_eq_append_getElem hk,hx];simp
theorem Rq(v:Value)(xs:List Int)(w:World)(hv:Ab w v xs)(aP:xs.length≤1099511627776):Calls Tryz.prog 70 #[v] w (M7 3 A7 w xs):=by
 obtain⟨a,cap,rfl,ak,-,-,hc⟩:=hv;go_enter Tryz.func70,Tryz.ntmps70;go_wp2_with (first|(at_make;refine Ez _ rfl _ _ 32 rfl 3 Tryz.underlying32 As rfl (by decide) (R:=A7) 0 ⟨rfl,BV.small (by decide) (by decide)⟩ A2 xs.length rfl rfl aP ?_;intro w1 aB aA aI));have aC:A4 3 A7 (fun b=>b=w.heap.size) w1 (.slice (some ⟨w.heap.size,0,none⟩) xs.length xs.length) (xs.take 0++List.replicate (xs.length-0) 0):=by simpa using aB
 clear aB;have bV:=Z aI;clear aI;go_loopw [4] (fun i wr=>∃k:Nat,k≤xs.length∧i=.int .i64 k∧A4 3 A7 (fun b=>b=w.heap.size) wr (.slice (some ⟨w.heap.size,0,none⟩) xs.length xs.length) (xs.take k++List.replicate (xs.length-k) 0)∧Below w.heap.size w wr∧wr.heap.size=w1.heap.size) (fun i _=>xs.length-(intOf i).toNat)
 case atStart=>exact⟨0,Nat.zero_le _,rfl,aC,aA,rfl⟩
 case round=>
  clear aC aA;obtain⟨k,hk,rfl,aB,aA,aI⟩:=hrel;by_cases aH:k<xs.length
  ·obtain⟨b,off,rfl,hb,bQ⟩:=hc (by omega);obtain⟨x,hx⟩:∃x,xs[k]? =some x:=⟨_,List.getElem?_eq_getElem aH⟩;obtain⟨u,aQ,rfl,hI⟩:=bQ k x hx;have Hx:=Z hx;have hl:(xs.take k++List.replicate (xs.length-k) 0).length=xs.length:=by simp;omega
   have ap:=aB.setInt (k:=k) (by rw[hl];exact aH) hI;rw[Yo hx] at ap;obtain⟨y,pK,hfd⟩:=aB.ints_at (k:=k) (by rw[hl];exact aH);have fG:=Z ap;have lk:=Z aI;rw[←aA.cell (p:=⟨b,off+k,none⟩) hb] at aQ;clear hx hc bQ hl ap aB aI;go_wp2;go_roundw
   case rel=>exact⟨k+1,by omega,by go_num,fG.o,aA.setCell (Nat.le_refl _) _,by rw[←lk.o];simp[World.setCell]⟩
   case measure=>simp[intOf];omega
  ·have aC:=Z aB;have lk:=Z aI;clear aB aI;go_wp2
   go_ret
   refine⟨_,rfl,?_,aA⟩;have h1:=aC.o;have h2:=lk.o;have h3:=bV.o;obtain rfl:k=xs.length:=by omega
   simp at h1;exact(A3 A2).mono (fun b hb=>⟨by omega,by omega⟩) h1
def Ay(xs:List Int):Int:=xs.foldl (· + ·) 0
theorem Gs{xs:List Int}{k:Nat}{x:Int}(h:xs[k]? =some x):Ay (xs.take (k+1))=Ay (xs.take k)+x:=by
 obtain⟨hk,hx⟩:=List.getElem?_eq_some_iff.1 h;rw[List.take_succ_eq_append_getElem hk,hx];simp[Ay]
theorem PG{xs:List Int}{k:Nat}(hk:xs.length≤k):Ay (xs.take k)=Ay xs:=by rw[List.take_of_length_le hk]
def Ix(xs:List Int):Prop:=xs.length≤1048576∧∀x∈xs,-1048576≤x∧x≤1048576
theorem Nu{xs:List Int}(h:Ix xs):∀k,k≤xs.length→-(1048576*(k:Int))≤Ay (xs.take k)∧Ay (xs.take k)≤1048576*(k:Int):=by
 intro k;induction k with
 |zero=>intro _;simp[Ay]
 |succ k ih=>
  intro hk;have h1:=ih (by omega);have hx:xs[k]? =some xs[k]:=List.getElem?_eq_getElem (by omega);rw[Gs hx];have:=h.2 _ (List.mem_of_getElem? hx)
  push_cast
  omega
theorem G7(v:Value)(xs:List Int)(w:World)(hv:Ab w v xs)(hs:Ix xs):Calls Tryz.prog 87 #[v] w fun e w'=>e=.returned (.int .i64 (Ay xs))∧w=w':=by
 obtain⟨a,cap,rfl,ak,-,-,hc⟩:=hv;have cY:=hs.1;go_enter Tryz.func87,Tryz.ntmps87;go_wp2
 go_loop [3,8] (fun n i=>∃k:Nat,k≤xs.length∧i=.int .i64 k∧n=.int .i64 (Ay (xs.take k))) (fun _ i=>xs.length-(intOf i).toNat)
 case atStart=>exact⟨0,Nat.zero_le _,rfl,rfl⟩
 case round=>
  obtain⟨k,hk,rfl,rfl⟩:=hrel;obtain⟨t,ht⟩:∃t,t=Ay (xs.take k):=⟨_,rfl⟩;have hb:=Nu hs k hk;rw[←ht] at hb⊢;have Ht:=Z ht;obtain⟨dU,au⟩:=hb;have hk20:k≤1048576:=by omega
  by_cases aH:k<xs.length
  ·obtain⟨b,off,rfl,-,bQ⟩:=hc (by omega);obtain⟨x,hx⟩:∃x,xs[k]? =some x:=⟨_,List.getElem?_eq_getElem aH⟩;obtain⟨u,aQ,rfl,-⟩:=bQ k x hx;obtain⟨cM,hx2⟩:=hs.2 x (List.mem_of_getElem? hx);have Hs:=Z (Gs hx);clear hx hc bQ ht;go_wp2
   go_round
   case rel=>exact⟨k+1,by omega,by go_num,by rw[Hs.o,←Ht.o]⟩
   case measure=>simp[intOf];omega
  ·clear ht;go_wp2
   go_ret
   exact⟨CM (by rw[Ht.o,PG (by omega)]),rfl⟩
theorem Gy(v:Value)(xs:List Int)(w:World)(hv:Ab w v xs)(hs:Ix xs):Calls Tryz.prog 256 #[v] w fun e w'=>e=.returned (.int .i64 (Ay xs))∧w=w':=by
 obtain⟨a,cap,rfl,ak,-,-,hc⟩:=hv;have cY:=hs.1;go_enter Tryz.func256,Tryz.ntmps256;go_wp2
 go_loop [3,8] (fun n i=>∃k:Nat,k≤xs.length∧i=.int .i64 k∧n=.int .i64 (Ay (xs.take k))) (fun _ i=>xs.length-(intOf i).toNat)
 case atStart=>exact⟨0,Nat.zero_le _,rfl,rfl⟩
 case round=>
  obtain⟨k,hk,rfl,rfl⟩:=hrel;obtain⟨t,ht⟩:∃t,t=Ay (xs.take k):=⟨_,rfl⟩;have hb:=Nu hs k hk;rw[←ht] at hb⊢;have Ht:=Z ht;obtain⟨dU,au⟩:=hb;have hk20:k≤1048576:=by omega
  by_cases aH:k<xs.length
  ·obtain⟨b,off,rfl,-,bQ⟩:=hc (by omega);obtain⟨x,hx⟩:∃x,xs[k]? =some x:=⟨_,List.getElem?_eq_getElem aH⟩;obtain⟨u,aQ,rfl,-⟩:=bQ k x hx;obtain⟨cM,hx2⟩:=hs.2 x (List.mem_of_getElem? hx);have Hs:=Z (Gs hx);clear hx hc bQ ht;go_wp2
   go_round
   case rel=>exact⟨k+1,by omega,by go_num,by rw[Hs.o,←Ht.o]⟩
   case measure=>simp[intOf];omega
  ·clear ht;go_wp2
   go_ret
   exact⟨CM (by rw[Ht.o,PG (by omega)]),rfl⟩
theorem F3{α:Type}{xs ys:List α}{k:Nat}{x:α}(h:xs.take k=ys.take k)(hx:xs[k]? =some x)(hy:ys[k]? =some x):xs.take (k+1)=ys.take (k+1):=by
 obtain⟨h1,h2⟩:=List.getElem?_eq_some_iff.1 hx;obtain⟨h3,h4⟩:=List.getElem?_eq_some_iff.1 hy;rw[List.take_succ_eq_append_getElem h1,List.take_succ_eq_append_getElem h3,h,h2,h4]
theorem OM(v v2:Value)(xs ys:List Int)(w:World)(hv:Ab w v xs)(aW:Ab w v2 ys):Calls Tryz.prog 72 #[v,v2] w fun e w'=>e=.returned (.bool (decide (xs=ys)))∧∃n,w'=w.drewN n:=by
 obtain⟨a,cap,rfl,ak,cY,-,hc⟩:=hv;obtain⟨a2,cap2,rfl,de,hle2,-,cH⟩:=aW;by_cases hl:xs.length=ys.length
 ·have eX:xs.length≤ys.length:=by omega
  have gB:ys.length≤xs.length:=by omega
  have Hl:=Z hl;clear hl;go_enter Tryz.func72,Tryz.ntmps72;go_wp2;go_loopw [5] (fun i wr=>∃k:Nat,k≤xs.length∧i=.int .i64 k∧xs.take k=ys.take k∧∃n,wr=w.drewN n) (fun i _=>xs.length-(intOf i).toNat)
  case atStart=>exact⟨0,Nat.zero_le _,rfl,rfl,0,rfl⟩
  case round=>
   obtain⟨k,hk,rfl,dJ,n,rfl⟩:=hrel;have gU:=Z dJ;clear dJ;by_cases aH:k<xs.length
   ·obtain⟨b,off,rfl,hb,bQ⟩:=hc (by omega);obtain⟨x,hx⟩:∃x,xs[k]? =some x:=⟨_,List.getElem?_eq_getElem aH⟩;obtain⟨u,aQ,rfl,-⟩:=bQ k x hx;obtain⟨b2,off2,rfl,au,hc2'⟩:=cH (by omega);obtain⟨y,hy⟩:∃y,ys[k]? =some y:=⟨_,List.getElem?_eq_getElem (by omega)⟩;obtain⟨u2,eP,rfl,-⟩:=hc2' k y hy;have Hx:=Z hx;have Hy:=Z hy;clear hx hc bQ hy cH hc2';by_cases cf:x=y
    ·subst cf;go_wp2;go_quiet (fail);go_wp2;go_roundw
     case rel=>exact⟨k+1,by omega,by go_num,F3 gU.o Hx.o Hy.o,_,rfl⟩
     case measure=>simp[intOf];omega
    ·have aO:(x==y)=false:=by simpa using cf
     have rh:=Z cf;clear cf;go_wp2;go_quiet (fail);go_wp2
     go_ret
     exact⟨AI (Eq.symm (by simp;intro h;have h1:=Hx.o;rw[h,Hy.o] at h1;exact rh.o (Option.some.inj h1).symm)),A4k _ _ _⟩
   ·go_wp2
    go_ret
    exact⟨AI (Eq.symm (by have h:=gU.o;have hl:=Hl.o;rw[List.take_of_length_le (by omega),List.take_of_length_le (by omega)] at h;simp[h])),n,rfl⟩
 ·have aO:decide (xs=ys)=false:=by simp;intro h;exact hl (by rw[h])
  rw[aO];clear aO;have vK:((xs.length:Int)==(ys.length:Int))=false:=by simp;omega
  go_enter Tryz.func72,Tryz.ntmps72;go_wp2
  go_ret
  exact⟨rfl,0,rfl⟩
def FZ(k:Int)(n:Nat):List Int:=(List.range n).map fun i:Nat=>k+(i:Int)
theorem Mq(k:Int)(n:Nat):(FZ k n).length=n:=by simp[FZ]
theorem A4f{k:Int}{n j:Nat}(h:j<n):(FZ k n)[j]? =some (k+(j:Int)):=by simp[FZ,h]
theorem A2p{xs:List Int}{k:Int}{j:Nat}(h:j<xs.length):(FZ k j++xs.drop j).set j (k+(j:Int))=FZ k (j+1)++xs.drop (j+1):=by
 rw[List.set_append_right _ _ (by rw[Mq];exact Nat.le_refl _),Mq,Nat.sub_self,List.drop_eq_getElem_cons h,List.set_cons_zero];simp[FZ,List.range_succ]
theorem N9(v:Value)(xs:List Int)(k:Int)(S:Bk)(w:World)(hv:A4 3 A7 S w v xs)(aN:0≤k)(fU:k≤1099511627776)(aP:xs.length≤1099511627776):
  Calls Tryz.prog 74 #[v,.int .i64 k] w fun e w'=>e=.returned (.int .i64 (k+xs.length))∧A4 3 A7 S w' v (FZ k xs.length)∧Ar S w w'∧w.heap.size=w'.heap.size:=by
 rcases hv.inv with⟨rfl,rfl⟩|⟨g,cap,rfl,hg,ak,gy,-⟩
 ·go_enter Tryz.func74,Tryz.ntmps74;go_wp2;refine wp_loop_rounds 1 ?_;rw[rounds_succ];go_wp2
  go_ret
  exact⟨CM (by simp),A4.nil _ _ _ _,Ar.refl _ _,rfl⟩
 ·go_enter Tryz.func74,Tryz.ntmps74;go_wp2;have Hv:A4 3 A7 S w (.slice (some ⟨g,0,none⟩) xs.length cap) (FZ k 0++xs.drop 0):=hv;clear hv;go_loopw [1,5] (fun n i wr=>∃j:Nat,j≤xs.length∧i=.int .i64 j∧n=.int .i64 (k+j)∧A4 3 A7 S wr (.slice (some ⟨g,0,none⟩) xs.length cap) (FZ k j++xs.drop j)∧Ar S w wr∧w.heap.size=wr.heap.size) (fun _ i _=>xs.length-(intOf i).toNat)
  case atStart=>exact⟨0,Nat.zero_le _,rfl,by simp,Hv,Ar.refl _ _,rfl⟩
  case round=>
   clear Hv;obtain⟨j,hj,rfl,rfl,aB,honly,aI⟩:=hrel;have bV:=Z aI;clear aI;by_cases aH:j<xs.length
   ·have hl:(FZ k j++xs.drop j).length=xs.length:=by simp[Mq];omega
    have ap:=aB.setInt (k:=j) (c:=k+(j:Int)) (by rw[hl];exact aH) (BV.small (by omega) (by omega));rw[A2p aH] at ap;obtain⟨y,pK,hfd⟩:=aB.ints_at (k:=j) (by rw[hl];exact aH);have fG:=Z ap;clear ap aB hl;go_wp2;go_roundw
    case rel=>exact⟨j+1,by omega,by go_num,by congr 1;omega,fG.o,honly.setCell (.inl hg) _,by rw[bV.o];simp[World.setCell]⟩
    case measure=>simp[intOf];omega
   ·have aC:=Z aB;clear aB;go_wp2
    go_ret
    obtain rfl:j=xs.length:=by omega
    exact⟨rfl,by have h:=aC.o;simpa using h,honly,bV.o⟩
theorem Nx(v:Value)(n:Nat)(k:Int)(w:World)(hv:Ab w v (FZ k n))(aN:0≤k)(fU:k≤1099511627776)(aP:n≤1099511627776):
  Calls Tryz.prog 76 #[v,.int .i64 k] w fun e w'=>e=.returned (.int .i64 (k+n))∧w=w':=by
 obtain⟨a,cap,rfl,ak,cY,-,hc⟩:=hv;rw[Mq] at ak cY hc⊢;go_enter Tryz.func76,Tryz.ntmps76;go_wp2
 go_loop [1,5] (fun m i=>∃j:Nat,j≤n∧i=.int .i64 j∧m=.int .i64 (k+j)) (fun _ i=>n-(intOf i).toNat)
 case atStart=>exact⟨0,Nat.zero_le _,rfl,by simp⟩
 case round=>
  obtain⟨j,hj,rfl,rfl⟩:=hrel;by_cases aH:j<n
  ·obtain⟨b,off,rfl,-,bQ⟩:=hc (by omega);obtain⟨u,aQ,rfl,-⟩:=bQ j _ (A4f aH);clear hc bQ;go_wp2
   go_round
   case rel=>exact⟨j+1,by omega,by go_num,by congr 1;omega⟩
   case measure=>simp[intOf];omega
  ·go_wp2
   go_ret
   exact⟨CM (by omega),rfl⟩
def DH(rows cols:List Int):Bool:=BR 1 4 rows.length&&BR 1 4 cols.length&&rows.all (BR 0 cols.length)&&cols.all (BR 0 rows.length)
theorem FM(v v2:Value)(xs ys:List Int)(w:World)(hv:Ab w v xs)(aW:Ab w v2 ys):Calls Tryz.prog 173 #[v,v2] w fun e w'=>e=.returned (.bool (DH xs ys))∧w=w':=by
 obtain⟨a,cap,rfl,ak,cY,-,-⟩:=id hv;obtain⟨a2,cap2,rfl,de,hle2,-,-⟩:=id aW;go_enter Tryz.func173,Tryz.ntmps173;go_wp2_with (first|(go_at_call 95;refine(B6 _ _ _ _).mono ?_;rintro e w' ⟨rfl,rfl⟩)|(go_at_call 157;refine(C6 _ _ _ _ _ (by assumption)).mono ?_;rintro e w' ⟨rfl,rfl⟩))
 all_goals(go_ret;exact⟨AI (by simp[DH, *]),rfl⟩)
theorem FN(v v2:Value)(xs ys:List Int)(w:World)(hv:Ab w v xs)(aW:Ab w v2 ys):Calls Tryz.prog 262 #[v,v2] w fun e w'=>e=.returned (.bool (DH xs ys))∧w=w':=by
 obtain⟨a,cap,rfl,ak,cY,-,hc⟩:=hv;obtain⟨a2,cap2,rfl,de,hle2,-,cH⟩:=aW;cases hin1:BR 1 4 xs.length
 ·go_enter Tryz.func262,Tryz.ntmps262;go_wp2_with (first|(go_at_call 201;refine(AR _ _ _ _).mono ?_;rintro e w' ⟨rfl,rfl⟩))
  go_ret
  exact⟨AI (by simp[DH, *]),rfl⟩
 cases hin2:BR 1 4 ys.length
 ·go_enter Tryz.func262,Tryz.ntmps262;go_wp2_with (first|(go_at_call 201;refine(AR _ _ _ _).mono ?_;rintro e w' ⟨rfl,rfl⟩))
  go_ret
  exact⟨AI (by simp[DH, *]),rfl⟩
 go_enter Tryz.func262,Tryz.ntmps262;go_wp2_with (first|(go_at_call 201;refine(AR _ _ _ _).mono ?_;rintro e w' ⟨rfl,rfl⟩));have Hin1:=Z hin1;have Hin2:=Z hin2;clear hin1 hin2
 go_loop [6,21] (fun _ i=>∃k:Nat,k≤xs.length∧i=.int .i64 k∧(xs.take k).all (BR 0 ys.length)=true) (fun _ i=>xs.length-(intOf i).toNat)
 case atStart=>exact⟨0,Nat.zero_le _,rfl,rfl⟩
 case round=>
  obtain⟨k,hk,rfl,aR⟩:=hrel;have aY:=Z aR;clear aR;by_cases aH:k<xs.length
  ·obtain⟨b,off,rfl,-,bQ⟩:=hc (by omega);obtain⟨x,hx⟩:∃x,xs[k]? =some x:=⟨_,List.getElem?_eq_getElem aH⟩;obtain⟨u,aQ,rfl,-⟩:=bQ k x hx;have Hs:=Z (BO (BR 0 ys.length) hx);have Hx:=Z hx;clear hx hc bQ;cases cA:BR 0 ys.length x
   ·have dM:=Z cA;go_wp2_with (first|(go_at_call 201;refine(AR _ _ _ _).mono ?_;rintro e w' ⟨rfl,rfl⟩))
    go_ret
    exact⟨AI (by simp[DH,BH _ Hx.o dM.o]),rfl⟩
   ·have dM:=Z cA;go_wp2_with (first|(go_at_call 201;refine(AR _ _ _ _).mono ?_;rintro e w' ⟨rfl,rfl⟩))
    go_round
    case rel=>exact⟨k+1,by omega,by go_num,by rw[Hs.o,aY.o,dM.o];rfl⟩
    case measure=>simp[intOf];omega
  ·have wC:=Z (DK aY.o (by omega));clear aY;go_wp2_with (fail);clear hk aH
   go_loop [8,33] (fun _ i=>∃k:Nat,k≤ys.length∧i=.int .i64 k∧(ys.take k).all (BR 0 xs.length)=true) (fun _ i=>ys.length-(intOf i).toNat)
   case atStart=>exact⟨0,Nat.zero_le _,rfl,rfl⟩
   case round=>
    obtain⟨k,hk,rfl,aR⟩:=hrel;have aY:=Z aR;clear aR;by_cases aH:k<ys.length
    ·obtain⟨b,off,rfl,-,bQ⟩:=cH (by omega);obtain⟨x,hx⟩:∃x,ys[k]? =some x:=⟨_,List.getElem?_eq_getElem aH⟩;obtain⟨u,aQ,rfl,-⟩:=bQ k x hx;have Hs:=Z (BO (BR 0 xs.length) hx);have Hx:=Z hx;clear hx cH bQ;cases cA:BR 0 xs.length x
     ·have dM:=Z cA;go_wp2_with (first|(go_at_call 201;refine(AR _ _ _ _).mono ?_;rintro e w' ⟨rfl,rfl⟩))
      go_ret
      exact⟨AI (by simp[DH,BH _ Hx.o dM.o]),rfl⟩
     ·have dM:=Z cA;go_wp2_with (first|(go_at_call 201;refine(AR _ _ _ _).mono ?_;rintro e w' ⟨rfl,rfl⟩))
      go_round
      case rel=>exact⟨k+1,by omega,by go_num,by rw[Hs.o,aY.o,dM.o];rfl⟩
      case measure=>simp[intOf];omega
    ·go_wp2
     go_ret
     exact⟨AI (by simp[DH,Hin1.o,Hin2.o,wC.o,DK aY.o (by omega)]),rfl⟩
end Go.Proofs.YthmocomfjgmjoaaGreatDoor
namespace Go.Proofs.YthmocomfjgmjoaaGreatDoor
def DZ(s:List Int×Nat):List Int:=if 0<s.2 then s.1++[(s.2:Int)] else s.1
def A32(s:List Int×Nat)(x:Int):List Int×Nat:=if x=1 then(s.1,s.2+1) else(DZ s,0)
def Cp(xs:List Int):List Int×Nat:=xs.foldl A32 ([],0)
def BQ(xs:List Int):List Int:=DZ (Cp xs)
theorem J9{xs:List Int}{k:Nat}{x:Int}(h:xs[k]? =some x):Cp (xs.take (k+1))=if x=1 then((Cp (xs.take k)).1,(Cp (xs.take k)).2+1) else(DZ (Cp (xs.take k)),0):=by
 obtain⟨hk,hx⟩:=List.getElem?_eq_some_iff.1 h;rw[List.take_succ_eq_append_getElem hk,hx];unfold Cp;rw[List.foldl_append];rfl
theorem A0B{xs:List Int}{k:Nat}(hk:k≤xs.length):0<(Cp (xs.take k)).2↔0<k∧xs[k-1]? =some 1:=by
 cases k with
 |zero=>simp[Cp]
 |succ k=>
  have hx:xs[k]? =some xs[k]:=List.getElem?_eq_getElem (by omega);rw[J9 hx];simp only[Nat.add_sub_cancel,hx]
  split<;>simp_all
theorem ND{xs:List Int}:∀k,k≤xs.length→(Cp (xs.take k)).1.length+(Cp (xs.take k)).2≤k:=by
 intro k;induction k with
 |zero=>intro _;simp[Cp]
 |succ k ih=>
  intro hk;have h1:=ih (by omega);have hx:xs[k]? =some xs[k]:=List.getElem?_eq_getElem (by omega);rw[J9 hx]
  split
  ·simp;omega
  ·simp only[DZ]
   split
   ·simp;omega
   ·simp;omega
theorem Nv(xs:List Int):(BQ xs).length≤xs.length:=by
 have h:=ND (xs:=xs) xs.length (Nat.le_refl _);rw[List.take_length] at h;unfold BQ DZ
 split
 ·simp;omega
 ·omega
end Go.Proofs.YthmocomfjgmjoaaGreatDoor
namespace Go.Proofs.YthmocomfjgmjoaaGreatDoor
open Go.RowKit
theorem Xe(v:Value)(xs:List Int)(w:World)(hv:Ab w v xs)(aP:xs.length≤1048576):Calls Tryz.prog 175 #[v] w (M7 3 A7 w (BQ xs)):=by
 obtain⟨a,cap,rfl,ak,-,-,hc⟩:=hv;go_enter Tryz.func175,Tryz.ntmps175;go_wp2;go_loopw [3,8] (fun v i wr=>∃k:Nat,k≤xs.length∧i=.int .i64 k∧A4 3 A7 (Iv w.heap.size wr.heap.size) wr v (DZ (Cp (xs.take k)))∧Below w.heap.size w wr) (fun _ i _=>xs.length-(intOf i).toNat)
 case atStart=>exact⟨0,Nat.zero_le _,rfl,A4.nil _ _ _ _,Below.refl _ _⟩
 case round=>
  obtain⟨k,hk,rfl,aB,aA⟩:=hrel;have aV:=aA.size;by_cases aH:k<xs.length
  ·obtain⟨b,off,rfl,hb,bQ⟩:=hc (by omega);obtain⟨x,hx⟩:∃x,xs[k]? =some x:=⟨_,List.getElem?_eq_getElem aH⟩;obtain⟨u,aQ,rfl,hI⟩:=bQ k x hx;rw[←aA.cell (p:=⟨b,off+k,none⟩) hb] at aQ;have bE:=J9 hx;have bF:=A0B hk;have qR:=ND k hk;by_cases cM:x=1
   ·subst cM;by_cases hp:0<(Cp (xs.take k)).2
    ·obtain⟨aN,lD⟩:=bF.1 hp;obtain⟨u2,hcp,rfl,-⟩:=bQ (k-1) 1 lD;rw[←aA.cell (p:=⟨b,off+(k-1),none⟩) hb] at hcp;obtain⟨o,ho⟩:∃o,o=(Cp (xs.take k)).1:=⟨_,rfl⟩;obtain⟨n,hn⟩:∃n,n=(Cp (xs.take k)).2:=⟨_,rfl⟩;simp only[if_true,←ho,←hn] at bE;rw[←hn] at hp;simp only[DZ,←ho,←hn,if_pos hp] at aB;rw[←ho,←hn] at qR;obtain⟨g,cp,rfl,hg,hcp2,-,-⟩:=aB.inv_ne (by simp);obtain⟨aM,cP,-⟩:=aB.ints_cell (k:=o.length) (x:=(n:Int)) (by simp);have ap:=aB.setInt (k:=o.length) (c:=(n:Int)+1) (by simp) (BV.small (by omega) (by omega));rw[List.set_append_right _ _ (Nat.le_refl _),Nat.sub_self,List.set_cons_zero] at ap;simp only[List.length_append,List.length_cons,List.length_nil,Nat.zero_add] at ap hcp2⊢;have fG:=Z ap;have aJ:=Z bE;have hge:=hg.1;clear hc bQ hx lD bF ho hn aB ap bE;go_wp2;go_roundw
     case rel=>exact⟨k+1,by omega,by go_num,by rw[aJ.o,A9];exact fG.o,aA.setCell hge _⟩
     case measure=>simp[intOf];omega
    ·have dY:(Cp (xs.take k)).2=0:=by omega
     have aF:DZ (Cp (xs.take k))=(Cp (xs.take k)).1:=by simp[DZ,dY]
     rw[aF] at aB;rw[if_pos rfl,dY] at bE;have aJ:=Z bE;have aC:=Z aB;have nQ:(Cp (xs.take k)).1.length<1099511627776:=by omega
     have lD:k≤0∨(0<k∧∃y,¬y=1∧wr.cell? ⟨b,off+(k-1),none⟩=some (.int .i64 y)):=by
      by_cases aN:k=0
      ·exact .inl (by omega)
      ·refine .inr ⟨by omega,?_⟩;have h1:xs[k-1]? =some xs[k-1]:=List.getElem?_eq_getElem (by omega);obtain⟨u2,hcp,rfl,-⟩:=bQ (k-1) _ h1;refine⟨xs[k-1],fun h=>hp (bF.2 ⟨by omega,by rw[h1,h]⟩),?_⟩;rw[aA.cell (p:=⟨b,off+(k-1),none⟩) hb,hcp]
     clear hc bQ hx bF aB bE dY aF hp qR;rcases lD with aN|⟨aN,y,hy,hcp⟩
     all_goals
      go_wp2_with (first|(at_builtin;(refine Aa rfl _ _ 32 rfl A2 3 Tryz.underlying32 As rfl (by decide) w.heap.size wr.heap.size aV (Nat.le_refl _) rfl rfl (by exact aC.o) ⟨rfl,BV.small (by decide) (by decide)⟩ nQ ?_);intro v' w' bY hbel' _));have au:=aA.trans hbel';have fP:=Z bY;clear bY hbel';go_wp2;go_roundw
      case rel=>exact⟨k+1,by omega,by go_num,by rw[aJ.o];exact fP.o,au⟩
      case measure=>simp[intOf];omega
   ·have aJ:=Z bE;have aC:=Z aB;clear hc bQ hx bF bE aB;go_wp2;go_roundw
    case rel=>exact⟨k+1,by omega,by go_num,by rw[aJ.o,if_neg cM];exact aC.o,aA⟩
    case measure=>simp[intOf];omega
  ·have aC:=Z aB;clear aB;go_wp2
   go_ret
   refine⟨_,rfl,?_,aA⟩;have h1:=aC.o;rw[List.take_of_length_le (by omega)] at h1;exact h1
theorem Y6(v:Value)(xs:List Int)(w:World)(hv:Ab w v xs)(aP:xs.length≤1048576):Calls Tryz.prog 265 #[v] w (M7 3 A7 w (BQ xs)):=by
 obtain⟨a,cap,rfl,ak,-,-,hc⟩:=hv;go_enter Tryz.func265,Tryz.ntmps265;go_wp2;go_loopw [3,4,10] (fun v n i wr=>∃k:Nat,k≤xs.length∧i=.int .i64 k∧n=.int .i64 (Cp (xs.take k)).2∧A4 3 A7 (Iv w.heap.size wr.heap.size) wr v (Cp (xs.take k)).1∧Below w.heap.size w wr) (fun _ _ i _=>xs.length-(intOf i).toNat)
 case atStart=>exact⟨0,Nat.zero_le _,rfl,rfl,Bq _ _ _ A2,Below.pureAlloc _ _⟩
 case round=>
  obtain⟨k,hk,rfl,rfl,aB,aA⟩:=hrel;have aV:=aA.size;have qR:=ND k hk;by_cases aH:k<xs.length
  ·obtain⟨b,off,rfl,hb,bQ⟩:=hc (by omega);obtain⟨x,hx⟩:∃x,xs[k]? =some x:=⟨_,List.getElem?_eq_getElem aH⟩;obtain⟨u,aQ,rfl,hI⟩:=bQ k x hx;rw[←aA.cell (p:=⟨b,off+k,none⟩) hb] at aQ;have bE:=J9 hx;clear hc bQ hx;by_cases cM:x=1
   ·subst cM;rw[if_pos rfl] at bE;have aJ:=Z bE;have aC:=Z aB;clear bE aB;go_wp2;go_roundw
    case rel=>exact⟨k+1,by omega,by go_num,by rw[aJ.o];rfl,by rw[aJ.o];exact aC.o,aA⟩
    case measure=>simp[intOf];omega
   ·rw[if_neg cM] at bE;have aJ:=Z bE;have aC:=Z aB;clear bE aB;by_cases hp:0<(Cp (xs.take k)).2
    ·have nQ:(Cp (xs.take k)).1.length<1099511627776:=by omega
     have aZ:=Z (show DZ (Cp (xs.take k))=(Cp (xs.take k)).1++[((Cp (xs.take k)).2:Int)] from by simp[DZ,hp]);go_wp2_with (first|(at_builtin;refine Aa rfl _ _ 32 rfl A2 3 Tryz.underlying32 As rfl (by decide) w.heap.size wr.heap.size aV (Nat.le_refl _) rfl rfl (by exact aC.o) ⟨rfl,BV.small (by omega) (by omega)⟩ nQ ?_;intro v' w' bY hbel' _));have au:=aA.trans hbel';have fP:=Z bY;clear bY hbel';go_wp2;go_roundw
     case rel=>exact⟨k+1,by omega,by go_num,by rw[aJ.o];rfl,by rw[aJ.o,aZ.o];exact fP.o,au⟩
     case measure=>simp[intOf];omega
    ·have aZ:=Z (show DZ (Cp (xs.take k))=(Cp (xs.take k)).1 from by simp[DZ,hp]);go_wp2;go_roundw
     case rel=>exact⟨k+1,by omega,by go_num,by rw[aJ.o];rfl,by rw[aJ.o,aZ.o];exact aC.o,aA⟩
     case measure=>simp[intOf];omega
  ·have aC:=Z aB;clear aB;have wD:=Z (show BQ xs=DZ (Cp (xs.take k)) from by rw[List.take_of_length_le (by omega)];rfl);by_cases hp:0<(Cp (xs.take k)).2
   ·have nQ:(Cp (xs.take k)).1.length<1099511627776:=by omega
    go_wp2_with (first|(at_builtin;refine Aa rfl _ _ 32 rfl A2 3 Tryz.underlying32 As rfl (by decide) w.heap.size wr.heap.size aV (Nat.le_refl _) rfl rfl (by exact aC.o) ⟨rfl,BV.small (by omega) (by omega)⟩ nQ ?_;intro v' w' bY hbel' _));have fP:=Z bY;have au:=aA.trans hbel';clear bY hbel';go_wp2
    go_ret
    refine⟨_,rfl,?_,au⟩;rw[wD.o];have h1:=fP.o;simpa[DZ,hp] using h1
   ·go_wp2
    go_ret
    refine⟨_,rfl,?_,aA⟩;rw[wD.o];have h1:=aC.o;simpa[DZ,hp] using h1
theorem Ie{xs:List Int}{m:Int}(h:xs.all (BR 0 m)=true)(hm:m≤1048576)(hl:xs.length≤1048576):Ix xs:=by
 refine⟨hl,fun x hx=>?_⟩;have h2:=List.all_eq_true.1 h _ hx;rw[AT] at h2;omega
theorem Es:(Tryz.prog.info? 32).map (fun i=>(i.zero,i.size,i.bytes))=some (some (.slice none 0 0),1,24):=by kernel_rfl
theorem A1X(v v2:Value)(xs ys:List (List Int))(w:World)(hv:Ak w v xs)(aW:Ak w v2 ys):Calls Tryz.prog 71 #[v,v2] w fun e w'=>e=.returned (.bool (decide (xs=ys)))∧∃n,w'=w.drewN n:=by
 obtain⟨a,cap,rfl,ak,cY,-,hc⟩:=hv;obtain⟨a2,cap2,rfl,de,hle2,-,cH⟩:=aW;by_cases hl:xs.length=ys.length
 ·have eX:xs.length≤ys.length:=by omega
  have gB:ys.length≤xs.length:=by omega
  have Hl:=Z hl;clear hl;go_enter Tryz.func71,Tryz.ntmps71;go_wp2;go_loopw [5] (fun i wr=>∃k:Nat,k≤xs.length∧i=.int .i64 k∧xs.take k=ys.take k∧∃n,wr=w.drewN n) (fun i _=>xs.length-(intOf i).toNat)
  case atStart=>exact⟨0,Nat.zero_le _,rfl,rfl,0,rfl⟩
  case round=>
   obtain⟨k,hk,rfl,dJ,n,hw⟩:=hrel;have gU:=Z dJ;clear dJ;by_cases aH:k<xs.length
   ·obtain⟨b,off,rfl,hb,bQ⟩:=hc (by omega);obtain⟨x,hx⟩:∃x,xs[k]? =some x:=⟨_,List.getElem?_eq_getElem aH⟩;obtain⟨u,aQ,hu⟩:=bQ k x hx;obtain⟨b2,off2,rfl,au,hc2'⟩:=cH (by omega);obtain⟨y,hy⟩:∃y,ys[k]? =some y:=⟨_,List.getElem?_eq_getElem (by omega)⟩;obtain⟨u2,eP,ec⟩:=hc2' k y hy;have bt:k<ys.length:=by omega
    have Hx:=Z hx;have Hy:=Z hy;have hu:Ab wr u x:=by rw[hw];exact hu
    have ec:Ab wr u2 y:=by rw[hw];exact ec
    have aQ:wr.cell? ⟨b,off+k,none⟩=some u:=by rw[hw];exact aQ
    have eP:wr.cell? ⟨b2,off2+k,none⟩=some u2:=by rw[hw];exact eP
    have Hw:=Z hw;clear hx hc bQ hy cH hc2' hw;by_cases cf:x=y
    ·subst cf;have hd:∀m,Calls Tryz.prog 72 #[u,u2] (wr.drewN m) fun e w''=>e=.returned (.bool true)∧∃q,w''=(wr.drewN m).drewN q:=fun m=>by
      have:=OM u u2 x x (wr.drewN m) hu ec;simpa only[decide_true] using this
     have Hd:=Z hd;clear hd hu ec;go_wp2;go_quiet ((go_at_call 72;exact Calls.quiet_of (Hd.o _)));go_wp2;go_roundw
     case rel=>exact⟨k+1,by omega,by go_num,F3 gU.o Hx.o Hy.o,A4o Hw.o _⟩
     case measure=>simp[intOf];omega
    ·have hd:∀m,Calls Tryz.prog 72 #[u,u2] (wr.drewN m) fun e w''=>e=.returned (.bool false)∧∃q,w''=(wr.drewN m).drewN q:=fun m=>by
      have:=OM u u2 x y (wr.drewN m) hu ec;simpa only[cf,decide_false] using this
     have Hd:=Z hd;clear hd hu ec;have rh:=Z cf;clear cf;go_wp2;go_quiet ((go_at_call 72;exact Calls.quiet_of (Hd.o _)));go_wp2
     go_ret
     exact⟨AI (Eq.symm (by simp;intro h;have h1:=Hx.o;rw[h,Hy.o] at h1;exact rh.o (Option.some.inj h1).symm)),A4o Hw.o _⟩
   ·have Hw:=Z hw;clear hw;go_wp2
    go_ret
    exact⟨AI (Eq.symm (by have h:=gU.o;have hl:=Hl.o;rw[List.take_of_length_le (by omega),List.take_of_length_le (by omega)] at h;simp[h])),n,Hw.o⟩
 ·have aO:decide (xs=ys)=false:=by simp;intro h;exact hl (by rw[h])
  rw[aO];clear aO;have vK:((xs.length:Int)==(ys.length:Int))=false:=by simp;omega
  go_enter Tryz.func71,Tryz.ntmps71;go_wp2
  go_ret
  exact⟨rfl,0,rfl⟩
def cells(g:List (List Int)):Nat:=(g.map List.length).sum
def Ft:Int→List (List Int)→List (List Int)
 |_,[]=>[]
 |k,r::g=>FZ k r.length::Ft (k+r.length) g
theorem GI(g:List (List Int)):∀k,(Ft k g).length=g.length:=by
 induction g with
 |nil=>intro k;rfl
 |cons r g ih=>intro k;simp[Ft,ih]
theorem Ky{g:List (List Int)}{k:Nat}{r:List Int}(h:g[k]? =some r):cells (g.take (k+1))=cells (g.take k)+r.length:=by
 obtain⟨hk,hx⟩:=List.getElem?_eq_some_iff.1 h;rw[List.take_succ_eq_append_getElem hk,hx];simp[cells]
theorem DT(g:List (List Int))(k:Nat):cells (g.take k)≤cells g:=by
 have:cells g=cells (g.take k)+cells (g.drop k):=by
  have h:cells (g.take k++g.drop k)=cells (g.take k)+cells (g.drop k):=by unfold cells;rw[List.map_append,List.sum_append]
  rwa[List.take_append_drop] at h
 omega
theorem UX{g:List (List Int)}:∀{k:Int}{j:Nat}{r:List Int},g[j]? =some r→(Ft k g)[j]? =some (FZ (k+cells (g.take j)) r.length):=by
 induction g with
 |nil=>intro k j r h;simp at h
 |cons a g ih=>
  intro k j r h;cases j with
  |zero=>simp at h;subst h;simp[Ft,cells]
  |succ j=>
   simp at h;simp only[Ft,List.getElem?_cons_succ];rw[ih h]
   congr 2
   simp[cells];omega
theorem Yy(v:Value)(xs:List (List Int))(k:Int)(S:Bk)(w:World)(hv:A4 32 (A4 3 A7) S w v xs)(hS:∀b,S b→b<w.heap.size)(aN:0≤k)(fU:k≤1048576)(aP:xs.length≤1048576)(bP:cells xs≤1048576):
  Calls Tryz.prog 73 #[v,.int .i64 k] w fun e w'=>e=.returned (.int .i64 (k+cells xs))∧A4 32 (A4 3 A7) S w' v (Ft k xs)∧Ar S w w'∧w.heap.size=w'.heap.size:=by
 rcases hv.inv with⟨rfl,rfl⟩|⟨g,cap,rfl,hg,ak,gy,-⟩
 ·go_enter Tryz.func73,Tryz.ntmps73;go_wp2;refine wp_loop_rounds 1 ?_;rw[rounds_succ];go_wp2
  go_ret
  exact⟨CM (by simp[cells]),A4.nil _ _ _ _,Ar.refl _ _,rfl⟩
 ·go_enter Tryz.func73,Tryz.ntmps73;go_wp2;have Hv:A4 32 (A4 3 A7) S w (.slice (some ⟨g,0,none⟩) xs.length cap) ((Ft k xs).take 0++xs.drop 0):=by simpa using hv
  clear hv;go_loopw [1,5] (fun n i wr=>∃j:Nat,j≤xs.length∧i=.int .i64 j∧n=.int .i64 (k+cells (xs.take j))∧A4 32 (A4 3 A7) S wr (.slice (some ⟨g,0,none⟩) xs.length cap) ((Ft k xs).take j++xs.drop j)∧Ar S w wr∧w.heap.size=wr.heap.size) (fun _ i _=>xs.length-(intOf i).toNat)
  case atStart=>exact⟨0,Nat.zero_le _,rfl,by simp[cells],Hv,Ar.refl _ _,rfl⟩
  case round=>
   clear Hv;obtain⟨j,hj,rfl,rfl,aB,honly,aI⟩:=hrel;have yw:=DT xs j;by_cases aH:j<xs.length
   ·obtain⟨r,hr⟩:∃r,xs[j]? =some r:=⟨_,List.getElem?_eq_getElem aH⟩;have bB:((Ft k xs).take j++xs.drop j)[j]? =some r:=by
     rw[List.getElem?_append_right (by rw[List.length_take,GI];omega),List.length_take,GI,Nat.min_eq_left (by omega),Nat.sub_self,List.getElem?_drop,Nat.add_zero,hr]
    have nR:=Ky hr;have hcj2:=DT xs (j+1);have aw:r.length≤1048576:=by omega
    obtain⟨-,-,-,-,T,u,aM,hu,hT,-,hback⟩:=aB.focus (A3 A2) bB;have bN:((Ft k xs).take j++xs.drop j).set j (FZ (k+cells (xs.take j)) r.length)=(Ft k xs).take (j+1)++xs.drop (j+1):=by
     rw[List.set_append_right _ _ (by rw[List.length_take,GI];omega),List.length_take,GI,Nat.min_eq_left (by omega),Nat.sub_self,List.drop_eq_getElem_cons aH,List.set_cons_zero];obtain⟨h1,h2⟩:=List.getElem?_eq_some_iff.1 (UX (k:=k) hr);rw[List.take_succ_eq_append_getElem h1,h2];simp
    have qC:=N9 u r (k+cells (xs.take j)) T wr hu (by omega) (by omega) (by omega);have wE:=Z qC;have mt:=Z hback;have cJ:=Z bN;have se:=Z nR;have bV:=Z aI;have Hu:=Z hu;have HT:=Z hT;clear aB bB hr nR hback bN qC aI hu hT;go_wp2_with (fail);refine wE.o.mono ?_;rintro e w1 ⟨rfl,bH,honly1,dH⟩;have f8:=Z dH;clear dH;go_wp2;go_roundw
    case rel=>
     refine⟨j+1,by omega,by go_num,?_,?_,?_,by rw[bV.o,f8.o]⟩
     ·rw[se.o];congr 1;omega
     ·rw[←cJ.o];exact mt.o w1 _ (fun b hb jz=>honly1.block b (by have:=hS b hb;rw[←bV.o];exact this) jz) bH
     ·exact honly.trans' (honly1.mono fun b hb _=>.inl (HT.o b hb).1)
    case measure=>simp[intOf];omega
   ·have aC:=Z aB;have bV:=Z aI;clear aB aI;go_wp2
    go_ret
    obtain rfl:j=xs.length:=by omega
    refine⟨CM (by rw[List.take_length]),?_,honly,bV.o⟩;have h:=aC.o;rw[List.take_of_length_le (by rw[GI];exact Nat.le_refl _)] at h;simpa using h
theorem Zd(v:Value)(xs:List (List Int))(k:Int)(w:World)(hv:Ak w v (Ft k xs))(aN:0≤k)(fU:k≤1048576)(aP:xs.length≤1048576)(bP:cells xs≤1048576):
  Calls Tryz.prog 75 #[v,.int .i64 k] w fun e w'=>e=.returned (.int .i64 (k+cells xs))∧w=w':=by
 obtain⟨a,cap,rfl,ak,cY,-,hc⟩:=hv;rw[GI] at ak cY hc⊢;go_enter Tryz.func75,Tryz.ntmps75;go_wp2
 go_loop [1,5] (fun m i=>∃j:Nat,j≤xs.length∧i=.int .i64 j∧m=.int .i64 (k+cells (xs.take j))) (fun _ i=>xs.length-(intOf i).toNat)
 case atStart=>exact⟨0,Nat.zero_le _,rfl,by simp[cells]⟩
 case round=>
  obtain⟨j,hj,rfl,rfl⟩:=hrel;have yw:=DT xs j;by_cases aH:j<xs.length
  ·obtain⟨r,hr⟩:∃r,xs[j]? =some r:=⟨_,List.getElem?_eq_getElem aH⟩;obtain⟨b,off,rfl,-,bQ⟩:=hc (by omega);obtain⟨u,aQ,hu⟩:=bQ j _ (UX hr);have hu:Ab w u _:=hu;have nR:=Ky hr;have hcj2:=DT xs (j+1);have dD:=Nx u r.length (k+cells (xs.take j)) w hu (by omega) (by omega) (by omega);have bU:=Z dD;have se:=Z nR;have bF:0≤k+(cells (xs.take j):Int)+r.length:=by omega
   clear hc bQ hr nR hu dD;go_wp2_with (fail);refine bU.o.mono ?_;rintro e w' ⟨rfl,rfl⟩;go_wp2
   go_round
   case rel=>exact⟨j+1,by omega,by go_num,by rw[se.o];congr 1;omega⟩
   case measure=>simp[intOf];omega
  ·go_wp2
   go_ret
   obtain rfl:j=xs.length:=by omega
   exact⟨CM (by rw[List.take_length]),rfl⟩
theorem GB(v:Value)(xs:List Int)(w:World)(hv:Ab w v xs)(hl:xs.length≤1048576):Calls Tryz.prog 83 #[v] w (M7 3 A7 w xs):=by
 have Hv:=Z hv;obtain⟨a,cap,rfl,-⟩:=hv;have gA:([]:List Int).length+xs.length≤1099511627776:=by simp;omega
 go_enter Tryz.func83,Tryz.ntmps83;go_wp2_with (first|(at_builtin;refine DJ rfl _ _ 32 rfl 3 Tryz.underlying32 As rfl (fun _=>False) rfl rfl (by exact A4.nil _ _ _ _) (by exact Hv.o) gA ?_;intro v2 w2 hown2 honly2 _));have hb:Below w.heap.size w w2:=by
  have ho:Ar (fun b=>(Value.slice none 0 0).ownBlock=some b) w w2:=honly2;refine Ar.pure (ho.mono fun b hb _=>?_);exact absurd hb (by simp[Value.ownBlock])
 go_wp2
 go_ret
 refine⟨_,rfl,?_,hb⟩;have h:=(A3 A2).mono (S':=Iv w.heap.size w2.heap.size) (fun b hb=>by
  rcases hb with hb|hb
  ·exact hb.elim
  ·exact hb) hown2
 simpa using h
theorem EO(v:Value)(m:List (List Int))(w:World)(hv:Ak w v m)(hm:m.length≤1048576)(hr:∀x∈m,x.length≤1048576):Calls Tryz.prog 82 #[v] w (M7 32 (A4 3 A7) w m):=by
 have Hv:=Z hv;obtain⟨a,cap0,rfl,-⟩:=hv;go_enter Tryz.func82,Tryz.ntmps82;go_wp2;go_loopw [3,5,8] (fun v _ i wr=>∃k:Nat,k≤m.length∧i=.int .i64 k∧A4 32 (A4 3 A7) (Iv w.heap.size wr.heap.size) wr v (m.take k)∧Below w.heap.size w wr) (fun _ _ i _=>m.length-(intOf i).toNat)
 case atStart=>exact⟨0,Nat.zero_le _,rfl,A4.nil _ _ _ _,Below.refl _ _⟩
 case round=>
  obtain⟨k,hk,rfl,aB,aA⟩:=hrel;obtain⟨wo,rfl⟩:∃wo:World,wo=wr:=⟨_,rfl⟩;have aV:=aA.size;by_cases aH:k<m.length
  ·obtain⟨row,aG⟩:∃row,m[k]? =some row:=⟨_,List.getElem?_eq_getElem aH⟩;obtain⟨b,off,cpr,he,hb,-⟩:=Hv.o.inv_ne (by omega);obtain⟨rfl,-⟩:a=some ⟨b,off,none⟩∧cap0=cpr:=by simpa using he
   obtain⟨u,aQ,hu⟩:=Sl.at Hv.o aG;have hu:Ab w u row:=hu;obtain⟨br,cpr,rfl,-⟩:=id hu;rw[←aA.cell (p:=⟨b,off+k,none⟩) hb] at aQ;have aw:=hr row (List.mem_of_getElem? aG);have aJ:=Z (show m.take (k+1)=m.take k++[row] from by rw[List.take_add_one,aG];rfl);have Hu:=Z (hu.keep aA);have ah:(m.take k).length<1099511627776:=by simp;omega
   have aC:=Z aB;clear aG hu aB he;go_wp2_with (fail);refine(GB _ _ _ Hu.o aw).mono ?_;rintro e w1 ⟨v1,rfl,bH,hbel1⟩;have cX:wo.heap.size≤w1.heap.size:=hbel1.size;obtain⟨p1,p2,p3,rfl⟩:=bH.shape;go_wp2_with (first|(at_builtin;(refine Aa rfl _ _ 31 rfl (A3 A2) 32 Tryz.underlying31 Es rfl (by decide) w.heap.size wo.heap.size aV cX rfl rfl (by exact A4.keep (A3 A2) aC.o hbel1 (Nat.le_refl _)) (by exact bH) ah ?_);intro v2 w2 hown2 aT _)|fail);have au:=(aA.trans (hbel1.mono aV)).trans aT;have ae:=Z hown2;clear hown2;go_wp2;go_roundw
   case rel=>exact⟨k+1,by omega,by go_num,by rw[aJ.o];exact ae.o,au⟩
   case measure=>simp[intOf];omega
  ·have aZ:=Z (show m.take k=m from by rw[List.take_of_length_le (by omega)]);have aC:=Z aB;clear aB;go_wp2
   go_ret
   exact⟨_,rfl,by rw[←aZ.o];exact aC.o,aA⟩
theorem JW:(Tryz.prog.info? 32).map (fun i=>(i.zero,i.size,i.bytes))=some (some (.slice none 0 0),1,24):=by kernel_rfl
theorem DG(v:Value)(m:List (List Int))(w:World)(hv:Ak w v m)(hm:m.length≤1048576)(hr:∀x∈m,x.length≤1048576):Calls Tryz.prog 122 #[v] w (M7 32 (A4 3 A7) w m):=by
 have Hv:=Z hv;have Hr:=Z hr;obtain⟨a,cap0,rfl,-⟩:=hv;clear hr;go_enter Tryz.func122,Tryz.ntmps122;go_wp2;go_loopw [3,9] (fun v i wr=>∃k:Nat,k≤m.length∧i=.int .i64 k∧A4 32 (A4 3 A7) (Iv w.heap.size wr.heap.size) wr v (m.take k)∧Below w.heap.size w wr) (fun _ i _=>m.length-(intOf i).toNat)
 case atStart=>exact⟨0,Nat.zero_le _,rfl,Bq _ _ _ (A3 A2),Below.pureAlloc _ _⟩
 case round=>
  obtain⟨k,hk,rfl,aB,aA⟩:=hrel;obtain⟨wo,rfl⟩:∃wo:World,wo=wr:=⟨_,rfl⟩;have aV:=aA.size;by_cases aH:k<m.length
  ·obtain⟨row,aG⟩:∃row,m[k]? =some row:=⟨_,List.getElem?_eq_getElem aH⟩;obtain⟨b,off,cpr,he,hb,-⟩:=Hv.o.inv_ne (by omega);obtain⟨rfl,-⟩:a=some ⟨b,off,none⟩∧cap0=cpr:=by simpa using he
   obtain⟨u,aQ,hu⟩:=Sl.at Hv.o aG;have hu:Ab w u row:=hu;obtain⟨br,cpr,rfl,-⟩:=id hu;rw[←aA.cell (p:=⟨b,off+k,none⟩) hb] at aQ;have aw:=Hr.o row (List.mem_of_getElem? aG);have aJ:=Z (show m.take (k+1)=m.take k++[row] from by rw[List.take_add_one,aG];rfl);have Hu:=Z ((hu.keep aA).keep (Below.pureAlloc wo (.cells #[] 3)));have dV:=Z (Bq wo 3 wo.heap.size A2);have hz:(wo.alloc (.cells #[] 3)).heap.size=wo.heap.size+1:=by simp
   have Hz:=Z hz;have gA:([]:List Int).length+row.length≤1099511627776:=by simp;omega
   have ah:(m.take k).length<1099511627776:=by simp;omega
   obtain⟨p1,p2,p3,rfl⟩:=aB.shape;have aC:=Z aB;clear aG hu aB he hz;go_wp2_with (first
    |(at_builtin;(refine DJ rfl _ _ 32 rfl 3 Tryz.underlying32 As rfl (Iv wo.heap.size (wo.alloc (.cells #[] 3)).heap.size) rfl rfl (by exact dV.o) (by exact Hu.o) gA ?_;intro v2 w2 hown2 honly2 _;obtain⟨q1,q2,q3,rfl⟩:=hown2.shape;have au:Below wo.heap.size wo w2:=(Below.pureAlloc wo (.cells #[] 3)).trans (Ar.below honly2 (by rw[Hz.o];omega) (fun b hb=>(dV.o.ownBlock' b hb).1));have hM:wo.heap.size≤w2.heap.size:=au.size;have kH:=Z ((A3 A2).mono (S':=Iv wo.heap.size w2.heap.size) (fun b hb=>hb.elim (fun h=>⟨h.1,by have h1:=h.2;have h2:=honly2.size;rw[Hz.o] at h1 h2;omega⟩) (fun h=>⟨by have h1:=h.1;rw[Hz.o] at h1;omega,h.2⟩)) hown2);have fl:=Z au;clear hown2 honly2 au))
    |(at_builtin;(refine Aa rfl _ _ 31 rfl (A3 A2) 32 Tryz.underlying31 JW rfl (by decide) w.heap.size wo.heap.size aV hM rfl rfl (by exact A4.keep (A3 A2) aC.o fl.o (Nat.le_refl _)) (by exact kH.o) ah ?_);intro v3 w3 bL bK _)
    |fail)
   have bW:=(aA.trans (fl.o.mono aV)).trans bK;have cV:=Z bL;clear bL;go_wp2;go_roundw
   case rel=>exact⟨k+1,by omega,by go_num,by rw[aJ.o];simpa using cV.o,bW⟩
   case measure=>simp[intOf];omega
  ·have aZ:=Z (show m.take k=m from by rw[List.take_of_length_le (by omega)]);have aC:=Z aB;clear aB;go_wp2
   go_ret
   exact⟨_,rfl,by rw[←aZ.o];exact aC.o,aA⟩
def DX(S:Bk)(w:World)(a b c:Value)(m:List (List Int))(r k:List Int):Prop:=
 ∃Sa Sb Sc:Bk,(∀x,Sa x→S x)∧(∀x,Sb x→S x)∧(∀x,Sc x→S x)∧(∀x,Sa x→¬Sb x)∧(∀x,Sa x→¬Sc x)∧(∀x,Sb x→¬Sc x)∧
  A4 32 (A4 3 A7) Sa w a m∧A4 3 A7 Sb w b r∧A4 3 A7 Sc w c k
theorem DX.keep{lo hi:Nat}{w w':World}{a b c:Value}{m:List (List Int)}{r k:List Int}(h:DX (Iv lo hi) w a b c m r k)(hb:Below w.heap.size w w')(hh:hi≤w.heap.size):DX (Iv lo hi) w' a b c m r k:=by
 obtain⟨Sa,Sb,Sc,h1,h2,h3,h4,h5,h6,o1,o2,o3⟩:=h;exact⟨Sa,Sb,Sc,h1,h2,h3,h4,h5,h6,(A3 (A3 A2)).same (A5 hb fun b hb=>by have:=(h1 b hb).2;omega) o1,(A3 A2).same (A5 hb fun b hb=>by have:=(h2 b hb).2;omega) o2,(A3 A2).same (A5 hb fun b hb=>by have:=(h3 b hb).2;omega) o3⟩
theorem DX.only{S T:Bk}{w w':World}{a b c:Value}{m:List (List Int)}{r k:List Int}(h:DX S w a b c m r k)(ho:Ar T w w')(hh:∀b,S b→b<w.heap.size)(hd:∀b,S b→¬T b):DX S w' a b c m r k:=by
 obtain⟨Sa,Sb,Sc,h1,h2,h3,h4,h5,h6,o1,o2,o3⟩:=h;exact⟨Sa,Sb,Sc,h1,h2,h3,h4,h5,h6,(A3 (A3 A2)).same (ho.same (fun b hb=>hd b (h1 b hb)) fun b hb=>hh b (h1 b hb)) o1,
  (A3 A2).same (ho.same (fun b hb=>hd b (h2 b hb)) fun b hb=>hh b (h2 b hb)) o2,(A3 A2).same (ho.same (fun b hb=>hd b (h3 b hb)) fun b hb=>hh b (h3 b hb)) o3⟩
theorem DX.reads{S:Bk}{w:World}{a b c:Value}{m:List (List Int)}{r k:List Int}(h:DX S w a b c m r k):Ak w a m∧Ab w b r∧Ab w c k:=by
 obtain⟨Sa,Sb,Sc,h1,h2,h3,h4,h5,h6,o1,o2,o3⟩:=h;exact⟨o1.grid,o2.ints,o3.ints⟩
theorem DX.shape{S:Bk}{w:World}{a b c:Value}{m:List (List Int)}{r k:List Int}(h:DX S w a b c m r k):(∃x y z,a=.slice x y z)∧(∃x y z,b=.slice x y z)∧(∃x y z,c=.slice x y z):=by
 obtain⟨Sa,Sb,Sc,h1,h2,h3,h4,h5,h6,o1,o2,o3⟩:=h;exact⟨o1.shape,o2.shape,o3.shape⟩
theorem Ma{w:World}{E g:Nat}{n:Int}{S:Bk}(h:w.heap[g]? =some (.cells #[.int .i64 n] E))(hn:BV n)(hS:S g):A4 E A7 S w (.slice (some ⟨g,0,none⟩) 1 1) [n]:=
 .inr ⟨g,#[.int .i64 n],rfl,hS,h,by simp,by simp[maxLen],by simp,fun _ _=>False,fun _ _ h=>h.elim,fun _ _ _ h=>h.elim,fun k x hk=>by
  cases k with
  |zero=>simp at hk;subst hk;exact⟨_,rfl,rfl,hn⟩
  |succ k=>simp at hk⟩
theorem UF{w:World}{E E' g r:Nat}{n:Int}{S:Bk}(h:w.heap[g]? =some (.cells #[.slice (some ⟨r,0,none⟩) 1 1] E))(h2:w.heap[r]? =some (.cells #[.int .i64 n] E'))(hn:BV n)(hS:S g)(hS2:S r)(aO:r≠g):A4 E (A4 E' A7) S w (.slice (some ⟨g,0,none⟩) 1 1) [[n]]:=
 .inr ⟨g,#[.slice (some ⟨r,0,none⟩) 1 1],rfl,hS,h,by simp,by simp[maxLen],by simp,fun k b=>k=0∧b=r,fun k b hb=>⟨by rw[hb.2];exact hS2,by rw[hb.2];exact aO⟩,fun i j b h1 h2=>by rw[h1.1,h2.1],fun k x hk=>by
  cases k with
  |zero=>simp at hk;subst hk;exact⟨_,rfl,Ma h2 hn ⟨rfl,rfl⟩⟩
  |succ k=>simp at hk⟩
theorem NewConsole_spec.NewConsole(w:World):Calls Tryz.prog 58 #[] w fun e w'=>∃a b c,e=.returned (.agg #[a,b,c])∧DX (Iv w.heap.size w'.heap.size) w' a b c [[0]] [0] [0]∧Below w.heap.size w w':=by
 go_enter Tryz.func58,Tryz.ntmps58;go_wp2;refine bodyPost_ret (v:=.agg #[.slice (some ⟨w.heap.size+2,0,none⟩) 1 1,.slice (some ⟨w.heap.size+3,0,none⟩) 1 1,.slice (some ⟨w.heap.size+4,0,none⟩) 1 1]) (by simp[results,Tryz.results58,go_sem]) rfl ⟨_,_,_,rfl,?_,?_⟩
 ·refine⟨Iv w.heap.size (w.heap.size+3),Iv (w.heap.size+3) (w.heap.size+4),Iv (w.heap.size+4) (w.heap.size+5),?_,?_,?_,?_,?_,?_,UF (r:=w.heap.size+1) ?_ ?_ (BV.small (by decide) (by decide)) ⟨by omega,by omega⟩ ⟨by omega,by omega⟩ (by omega),Ma ?_ (BV.small (by decide) (by decide)) ⟨by omega,by omega⟩,Ma ?_ (BV.small (by decide) (by decide)) ⟨by omega,by omega⟩⟩
  ·intro x hx;have:=hx.1;have:=hx.2;exact⟨by omega,by simp;omega⟩
  ·intro x hx;have:=hx.1;have:=hx.2;exact⟨by omega,by simp;omega⟩
  ·intro x hx;have:=hx.1;have:=hx.2;exact⟨by omega,by simp;omega⟩
  ·intro x hx hy;have:=hx.2;have:=hy.1;omega
  ·intro x hx hy;have:=hx.2;have:=hy.1;omega
  ·intro x hx hy;have:=hx.2;have:=hy.1;omega
  ·show((((w.heap.push _).push _).push _).push _|>.push _)[_]? =_;simp only[Array.getElem?_push,Array.size_push]
   repeat (first|rw[if_pos trivial]|rw[if_neg (by omega)]|rw[if_pos (by omega)])
  ·show((((w.heap.push _).push _).push _).push _|>.push _)[_]? =_;simp only[Array.getElem?_push,Array.size_push]
   repeat (first|rw[if_pos trivial]|rw[if_neg (by omega)]|rw[if_pos (by omega)])
  ·show((((w.heap.push _).push _).push _).push _|>.push _)[_]? =_;simp only[Array.getElem?_push,Array.size_push]
   repeat (first|rw[if_pos trivial]|rw[if_neg (by omega)]|rw[if_pos (by omega)])
  ·show((((w.heap.push _).push _).push _).push _|>.push _)[_]? =_;simp only[Array.getElem?_push,Array.size_push]
   repeat (first|rw[if_pos trivial]|rw[if_neg (by omega)]|rw[if_pos (by omega)])
 ·exact((((((Below.refl _ _).alloc (Nat.le_refl _) _).alloc (by simp) _).alloc (by simp;omega) _).alloc (by simp;omega) _).alloc (by simp;omega) _)
theorem NewConsole_impl.NewConsole(w:World):Calls Tryz.prog 12 #[] w fun e w'=>∃a b c,e=.returned (.agg #[a,b,c])∧DX (Iv w.heap.size w'.heap.size) w' a b c [[0]] [0] [0]∧Below w.heap.size w w':=by
 go_enter Tryz.func12,Tryz.ntmps12;go_wp2;refine bodyPost_ret (v:=.agg #[.slice (some ⟨w.heap.size+2,0,none⟩) 1 1,.slice (some ⟨w.heap.size+3,0,none⟩) 1 1,.slice (some ⟨w.heap.size+4,0,none⟩) 1 1]) (by simp[results,Tryz.results12,go_sem]) rfl ⟨_,_,_,rfl,?_,?_⟩
 ·refine⟨Iv w.heap.size (w.heap.size+3),Iv (w.heap.size+3) (w.heap.size+4),Iv (w.heap.size+4) (w.heap.size+5),?_,?_,?_,?_,?_,?_,UF (r:=w.heap.size+1) ?_ ?_ (BV.small (by decide) (by decide)) ⟨by omega,by omega⟩ ⟨by omega,by omega⟩ (by omega),Ma ?_ (BV.small (by decide) (by decide)) ⟨by omega,by omega⟩,Ma ?_ (BV.small (by decide) (by decide)) ⟨by omega,by omega⟩⟩
  ·intro x hx;have:=hx.1;have:=hx.2;exact⟨by omega,by simp;omega⟩
  ·intro x hx;have:=hx.1;have:=hx.2;exact⟨by omega,by simp;omega⟩
  ·intro x hx;have:=hx.1;have:=hx.2;exact⟨by omega,by simp;omega⟩
  ·intro x hx hy;have:=hx.2;have:=hy.1;omega
  ·intro x hx hy;have:=hx.2;have:=hy.1;omega
  ·intro x hx hy;have:=hx.2;have:=hy.1;omega
  ·show((((w.heap.push _).push _).push _).push _|>.push _)[_]? =_;simp only[Array.getElem?_push,Array.size_push]
   repeat (first|rw[if_pos trivial]|rw[if_neg (by omega)]|rw[if_pos (by omega)])
  ·show((((w.heap.push _).push _).push _).push _|>.push _)[_]? =_;simp only[Array.getElem?_push,Array.size_push]
   repeat (first|rw[if_pos trivial]|rw[if_neg (by omega)]|rw[if_pos (by omega)])
  ·show((((w.heap.push _).push _).push _).push _|>.push _)[_]? =_;simp only[Array.getElem?_push,Array.size_push]
   repeat (first|rw[if_pos trivial]|rw[if_neg (by omega)]|rw[if_pos (by omega)])
  ·show((((w.heap.push _).push _).push _).push _|>.push _)[_]? =_;simp only[Array.getElem?_push,Array.size_push]
   repeat (first|rw[if_pos trivial]|rw[if_neg (by omega)]|rw[if_pos (by omega)])
 ·exact((((((Below.refl _ _).alloc (Nat.le_refl _) _).alloc (by simp) _).alloc (by simp;omega) _).alloc (by simp;omega) _).alloc (by simp;omega) _)
theorem A5l(a b c a' b' c':Value)(m m':List (List Int))(r k r' k':List Int)(w:World)(h1:Ak w a m)(h2:Ab w b r)(h3:Ab w c k)(mJ:Ak w a' m')(nX:Ab w b' r')(ki:Ab w c' k'):
  Calls Tryz.prog 19 #[.agg #[a,b,c],.agg #[a',b',c']] w fun e w'=>e=.returned (.bool (decide (m=m')&&decide (r=r')&&decide (k=k')))∧Below w.heap.size w w':=by
 have hb:∀o1 o2 n,Below w.heap.size w (((w.alloc o1).alloc o2).drewN n):=fun o1 o2 n=>below_drewN (((Below.refl _ _).alloc (Nat.le_refl _) _).alloc (by simp) _) _;have Hb:=Z hb;clear hb;go_enter Tryz.func19,Tryz.ntmps19;go_wp2_with (fail);refine(A1X _ _ _ _ _ (h1.keep (Hb.o _ _ 0)) (mJ.keep (Hb.o _ _ 0))).mono ?_;rintro e w' ⟨rfl,n,rfl⟩;cases he:decide (m=m')
 ·go_wp2
  go_ret
  exact⟨AI (by rw[he];simp),Hb.o _ _ _⟩
 have He:=Z he;go_wp2_with (fail);refine(OM _ _ _ _ _ (h2.keep (Hb.o _ _ _)) (nX.keep (Hb.o _ _ _))).mono ?_;rintro e w' ⟨rfl,n1,rfl⟩;cases dh:decide (r=r')
 ·go_wp2
  go_ret
  exact⟨AI (by rw[dh];simp),by simpa using Hb.o _ _ _⟩
 have tK:=Z dh;go_wp2_with (fail);refine(OM _ _ _ _ _ (h3.keep (by simpa using Hb.o _ _ _)) (ki.keep (by simpa using Hb.o _ _ _))).mono ?_;rintro e w' ⟨rfl,n2,rfl⟩;cases he3:decide (k=k')
 ·go_wp2
  go_ret
  exact⟨AI (by rw[he3];simp),by simpa using Hb.o _ _ _⟩
 ·go_wp2
  go_ret
  exact⟨AI (by rw[He.o,tK.o,he3];rfl),by simpa using Hb.o _ _ _⟩
theorem A4A(a b c:Value)(m:List (List Int))(r k:List Int)(n:Int)(S:Bk)(w:World)(h:DX S w a b c m r k)(hS:∀x,S x→x<w.heap.size)(dY:0≤n)(eA:n≤1024)(hl:m.length≤1048576)(bP:cells m≤1048576)(hr:r.length≤1048576)(hk:k.length≤1048576):
  Calls Tryz.prog 20 #[.agg #[a,b,c],.int .i64 n] w fun e w'=>e=.returned (.int .i64 (n+cells m+r.length+k.length))∧DX S w' a b c (Ft n m) (FZ (n+cells m) r.length) (FZ (n+cells m+r.length) k.length)∧Ar S w w':=by
 obtain⟨Sa,Sb,Sc,h1,h2,h3,h4,h5,h6,o1,o2,o3⟩:=h;have pI:∀o,Below w.heap.size w (w.alloc o):=fun o=>Below.pureAlloc w o;go_enter Tryz.func20,Tryz.ntmps20;go_wp2_with (fail);refine(Yy _ _ _ Sa _ ((A3 (A3 A2)).same (A5 (pI _) fun x hx=>hS x (h1 x hx)) o1) (fun x hx=>by have:=hS x (h1 x hx);simp;omega) (by omega) (by omega) (by omega) (by omega)).mono ?_;rintro e w1 ⟨rfl,p1,q1,z1⟩;have bZ:w1.heap.size=w.heap.size+1:=by rw[←z1];simp
 have ry:=Z bZ;have k0:∀j,w1.cell? ⟨w.heap.size,j,none⟩=#[a,b,c][j]? :=fun j=>by
  rw[q1.cell (p:=⟨w.heap.size,j,none⟩) (by simp) (fun hx=>by have:=hS _ (h1 _ hx);simp at this)];exact cell_of_row _ _ _ _ _ _ (heap_alloc_new w _)
 have k1:w1.cell? ⟨w.heap.size,1,none⟩=some b:=k0 1;have k2:w1.cell? ⟨w.heap.size,2,none⟩=some c:=k0 2;have o2':=(A3 A2).same (q1.same (T:=Sb) (fun x hx hy=>h4 x hy hx) (fun x hx=>by have:=hS x (h2 x hx);simp;omega)) ((A3 A2).same (A5 (pI _) fun x hx=>hS x (h2 x hx)) o2);have o3':=(A3 A2).same (q1.same (T:=Sc) (fun x hx hy=>h5 x hy hx) (fun x hx=>by have:=hS x (h3 x hx);simp;omega)) ((A3 A2).same (A5 (pI _) fun x hx=>hS x (h3 x hx)) o3);have K2:=Z k2;clear k0 k2 bZ z1;go_wp2_with (fail);refine(N9 _ _ _ Sb _ o2' (by omega) (by omega) (by omega)).mono ?_;rintro e w2 ⟨rfl,p2,q2,z2⟩;have Z2:=Z z2;clear z2;have k2:w2.cell? ⟨w.heap.size,2,none⟩=some c:=by
  rw[q2.cell (p:=⟨w.heap.size,2,none⟩) (by rw[ry.o];simp) (fun hx=>by have:=hS _ (h2 _ hx);simp at this)];exact K2.o
 have o3'':=(A3 A2).same (q2.same (T:=Sc) (fun x hx hy=>h6 x hy hx) (fun x hx=>by have:=hS x (h3 x hx);rw[ry.o];omega)) o3';have p1':=(A3 (A3 A2)).same (q2.same (T:=Sa) (fun x hx hy=>h4 x hx hy) (fun x hx=>by have:=hS x (h1 x hx);rw[ry.o];omega)) p1;go_wp2_with (fail);refine(N9 _ _ _ Sc _ o3'' (by omega) (by omega) (by omega)).mono ?_;rintro e w3 ⟨rfl,p3,q3,z3⟩;have Z3:=Z z3;clear z3;have p1'':=(A3 (A3 A2)).same (q3.same (T:=Sa) (fun x hx hy=>h5 x hx hy) (fun x hx=>by have:=hS x (h1 x hx);rw[←Z2.o,ry.o];omega)) p1';have p2':=(A3 A2).same (q3.same (T:=Sb) (fun x hx hy=>h6 x hx hy) (fun x hx=>by have:=hS x (h2 x hx);rw[←Z2.o,ry.o];omega)) p2;have aR:Ar S w w3:=(((Ar.of_pure (pI _) S).trans' (q1.mono fun x hx _=>.inl (h1 x hx))).trans' (q2.mono fun x hx _=>.inl (h2 x hx))).trans' (q3.mono fun x hx _=>.inl (h3 x hx));go_wp2
 go_ret
 exact⟨rfl,⟨Sa,Sb,Sc,h1,h2,h3,h4,h5,h6,p1'',p2',p3⟩,aR⟩
theorem A4w(a b c:Value)(m:List (List Int))(r k:Nat)(n:Int)(w:World)(h1:Ak w a (Ft n m))(h2:Ab w b (FZ (n+cells m) r))(h3:Ab w c (FZ (n+cells m+r) k))(dY:0≤n)(eA:n≤1024)(hl:m.length≤1048576)(bP:cells m≤1048576)(hr:r≤1048576)(hk:k≤1048576):
  Calls Tryz.prog 21 #[.agg #[a,b,c],.int .i64 n] w fun e w'=>e=.returned (.int .i64 (n+cells m+r+k))∧Below w.heap.size w w':=by
 have hb:∀o,Below w.heap.size w (w.alloc o):=fun o=>Below.pureAlloc w o;have Hb:=Z hb;clear hb;go_enter Tryz.func21,Tryz.ntmps21;go_wp2_with (fail);refine(Zd _ _ _ _ (h1.keep (Hb.o _)) (by omega) (by omega) (by omega) (by omega)).mono ?_;rintro e w' ⟨rfl,rfl⟩;have t1:0≤n+(cells m:Int):=by omega
 go_wp2_with (fail);refine(Nx _ _ _ _ (h2.keep (Hb.o _)) (by omega) (by omega) (by omega)).mono ?_;rintro e w' ⟨rfl,rfl⟩;have t2:0≤n+(cells m:Int)+r:=by omega
 go_wp2_with (fail);refine(Nx _ _ _ _ (h3.keep (Hb.o _)) (by omega) (by omega) (by omega)).mono ?_;rintro e w' ⟨rfl,rfl⟩;have t3:0≤n+(cells m:Int)+r+k:=by omega
 go_wp2
 go_ret
 exact⟨rfl,Hb.o _⟩
end Go.Proofs.YthmocomfjgmjoaaGreatDoor
namespace Go.Proofs.YthmocomfjgmjoaaGreatDoor
def Ac(r c:Nat)(m:List (List Int)):Prop:=m.length=r∧∀row∈m,row.length=c∧∀x∈row,0≤x∧x≤1
def EE(lo hi:Int)(n:Nat)(row:List Int):Bool:=decide (row.length=n)&&BR 1 5 row.length&&row.all (BR lo hi)
def Dl(lo hi:Int)(m:List (List Int)):Bool:=BR 1 5 m.length&&m.all (EE lo hi (m.headD []).length)
def Af(m:List (List Int)):Bool:=Dl 0 1 m
theorem Ac.ok{r c:Nat}{m:List (List Int)}(h:Ac r c m)(h1:1≤r)(h2:r≤5)(h3:1≤c)(h4:c≤5):Af m=true:=by
 obtain⟨hl,hr⟩:=h;unfold Af Dl;rw[Bool.and_eq_true];refine⟨Fg (by omega) (by omega),?_⟩;rw[List.all_eq_true];intro row aG;have hh:m.headD []∈m:=by
  cases m with
  |nil=>simp at aG
  |cons a m=>simp
 obtain⟨e1,e2⟩:=hr row aG;obtain⟨e3,_⟩:=hr _ hh;simp only[EE,Bool.and_eq_true,decide_eq_true_eq,List.all_eq_true];exact⟨⟨by rw[e1,e3],Fg (by omega) (by omega)⟩,fun x hx=>Fg (e2 x hx).1 (e2 x hx).2⟩
theorem Ad{m:List (List Int)}(h:Af m=true):∃r c,1≤r∧r≤5∧1≤c∧c≤5∧Ac r c m:=by
 unfold Af Dl at h;rw[Bool.and_eq_true,List.all_eq_true,AT] at h;obtain⟨⟨h1,h2⟩,h3⟩:=h;have hh:m.headD []∈m:=by
  cases m with
  |nil=>simp at h1
  |cons a m=>simp
 have dO:=h3 _ hh;simp only[EE,Bool.and_eq_true,decide_eq_true_eq,List.all_eq_true,AT] at dO;refine⟨m.length,(m.headD []).length,by omega,by omega,by omega,by omega,rfl,fun row aG=>?_⟩;have:=h3 _ aG;simp only[EE,Bool.and_eq_true,decide_eq_true_eq,List.all_eq_true,AT] at this;exact⟨this.1.1,this.2⟩
theorem Ac.row{r c:Nat}{m:List (List Int)}(h:Ac r c m){y:Nat}(hy:y<r):∃row,m[y]? =some row∧row.length=c∧∀x∈row,0≤x∧x≤1:=by
 have hl:y<m.length:=by rw[h.1];exact hy
 exact⟨m[y],List.getElem?_eq_getElem hl,h.2 _ (List.getElem_mem hl)⟩
theorem Ac.set{r c:Nat}{m:List (List Int)}(h:Ac r c m){y x:Nat}{row:List Int}(hy:m[y]? =some row){n:Int}(h0:0≤n)(h1:n≤1):Ac r c (m.set y (row.set x n)):=by
 refine⟨by simp[h.1],fun q hq=>?_⟩;rcases List.mem_or_eq_of_mem_set hq with hq|rfl
 ·exact h.2 q hq
 ·obtain⟨e1,e2⟩:=h.2 row (List.mem_of_getElem? hy);refine⟨by simpa using e1,fun z hz=>?_⟩;rcases List.mem_or_eq_of_mem_set hz with hz|rfl
  ·exact e2 z hz
  ·exact⟨h0,h1⟩
theorem Jb(r c:Nat):Ac r c (List.replicate r (List.replicate c 0)):=by
 refine⟨by simp,fun row aG=>?_⟩;obtain rfl:=List.eq_of_mem_replicate aG;refine⟨by simp,fun x hx=>?_⟩;obtain rfl:=List.eq_of_mem_replicate hx;exact⟨by decide,by decide⟩
def AO(n key:Nat):List Int:=(List.range n).map fun x:Nat=>((key/2^(n-1-x) % 2:Nat):Int)
def Ek(n:Nat)(rs:List Int)(k:Nat):List (List Int):=((List.range k).map (AO n)).filter fun l=>decide (BQ l=rs)
def Bj(rs:List Int)(n:Nat):List (List Int):=Ek n rs (2^n)
theorem F7(n key:Nat):(AO n key).length=n:=by simp[AO]
theorem WX{n key x:Nat}(h:x<n):(AO n key)[x]? =some ((key/2^(n-1-x) % 2:Nat):Int):=by simp[AO,h]
theorem O1(n:Nat)(rs:List Int)(k:Nat):Ek n rs (k+1)=if BQ (AO n k)=rs then Ek n rs k++[AO n k] else Ek n rs k:=by
 unfold Ek;rw[List.range_succ,List.map_append,List.filter_append]
 split<;>simp_all
theorem J6(n:Nat)(rs:List Int)(k:Nat):(Ek n rs k).length≤k:=by
 have:=List.length_filter_le (fun l=>decide (BQ l=rs)) ((List.range k).map (AO n));simpa[Ek] using this
theorem A3j{n key j:Nat}(h:j<n):((AO n key).take j++List.replicate (n-j) 0).set j ((key/2^(n-1-j) % 2:Nat):Int)=(AO n key).take (j+1)++List.replicate (n-(j+1)) 0:=by
 have:=Yo (WX (key:=key) h);rwa[F7] at this
def Mg(st line:List Int)(x:Nat):Bool:=decide (st.getD x 0<0)||(st.getD x 0==line.getD x 0)
def Fn(st line:List Int)(j:Nat):Bool:=(List.range j).all (Mg st line)
def Ju(st line:List Int):Bool:=Fn st line line.length
def Fq(a b:Int):Int:=if a=b then a else-1
def Fe(o line:List Int):List Int:=List.zipWith Fq o line
def FL(st:List Int)(acc:Option (List Int))(line:List Int):Option (List Int):=
 if Ju st line then some (match acc with|none=>line|some o=>Fe o line) else acc
def C8(L:List (List Int))(st:List Int)(k:Nat):Option (List Int):=(L.take k).foldl (FL st) none
def Il(st:List Int):Bool:=BR 1 5 st.length&&st.all (BR (-1) 1)
def Bh(rs st:List Int):Option (List Int):=if Il st then C8 (Bj rs st.length) st (Bj rs st.length).length else none
theorem NC{st line:List Int}{j:Nat}{x c:Int}(hx:st[j]? =some x)(hc:line[j]? =some c):Mg st line j=(decide (x<0)||(x==c)):=by
 simp[Mg,List.getD,hx,hc]
theorem MH(st line:List Int)(j:Nat):Fn st line (j+1)=(Fn st line j&&Mg st line j):=by
 simp[Fn,List.range_succ]
theorem Ij{L:List (List Int)}{st:List Int}{k:Nat}{line:List Int}(h:L[k]? =some line):C8 L st (k+1)=FL st (C8 L st k) line:=by
 obtain⟨hk,hx⟩:=List.getElem?_eq_some_iff.1 h;unfold C8;rw[List.take_succ_eq_append_getElem hk,hx,List.foldl_append];rfl
theorem FC(o line:List Int):(Fe o line).length=min o.length line.length:=by simp[Fe]
def D9(o line:List Int)(j:Nat):List Int:=(Fe o line).take j++o.drop j
theorem OG(o line:List Int):D9 o line 0=o:=by simp[D9]
theorem Lw{o line:List Int}(h:o.length=line.length)(j:Nat):(D9 o line j).length=o.length:=by
 simp[D9,FC,h];omega
theorem PY{o line:List Int}(h:o.length=line.length):D9 o line line.length=Fe o line:=by
 simp[D9,List.take_of_length_le,FC,h]
theorem Nm{o line:List Int}{j:Nat}{a:Int}(h:o.length=line.length)(ha:o[j]? =some a):(D9 o line j)[j]? =some a:=by
 have hj:=(List.getElem?_eq_some_iff.1 ha).1;rw[D9,List.getElem?_append_right (by simp[FC];omega),List.length_take,FC,List.getElem?_drop,←ha]
 congr 1;omega
theorem KB{o line:List Int}{j:Nat}{a b:Int}(h:o.length=line.length)(ha:o[j]? =some a)(hb:line[j]? =some b):D9 o line (j+1)=(D9 o line j).set j (Fq a b):=by
 have hj:=(List.getElem?_eq_some_iff.1 ha).1;have hm:(Fe o line)[j]? =some (Fq a b):=by simp[Fe,List.getElem?_zipWith,ha,hb]
 obtain⟨h1,h2⟩:=List.getElem?_eq_some_iff.1 hm;unfold D9;rw[List.set_append_right _ _ (by simp[FC];omega),List.take_succ_eq_append_getElem h1,h2];have:j-(List.take j (Fe o line)).length=0:=by simp[FC];omega
 rw[this,List.drop_eq_getElem_cons hj,List.set_cons_zero];simp
theorem ON{o line:List Int}{j:Nat}{a:Int}(h:o.length=line.length)(ha:o[j]? =some a)(hb:line[j]? =some a):D9 o line (j+1)=D9 o line j:=by
 rw[KB h ha hb];have h1:=Nm h ha;have hl:=Lw h j;rw[show Fq a a=a from by simp[Fq]];obtain⟨h2,h3⟩:=List.getElem?_eq_some_iff.1 h1;rw[←h3];exact List.set_getElem_self h2
theorem Je{n k:Nat}{rs l:List Int}(h:l∈Ek n rs k):l.length=n∧∀x∈l,0≤x∧x≤1:=by
 simp only[Ek,List.mem_filter,List.mem_map,List.mem_range] at h;obtain⟨⟨q,_,rfl⟩,_⟩:=h;refine⟨F7 _ _,fun x hx=>?_⟩;simp only[AO,List.mem_map,List.mem_range] at hx;obtain⟨j,_,rfl⟩:=hx;have:=Nat.mod_lt (q/2^(n-1-j)) (show 0<2 by decide);omega
theorem A24{o line:List Int}(h:∀x∈o,-1≤x∧x≤1):∀x∈Fe o line,-1≤x∧x≤1:=by
 intro x hx;obtain⟨j,hj⟩:=List.getElem?_of_mem hx;simp only[Fe,List.getElem?_zipWith] at hj;cases h1:o[j]? with
 |none=>simp[h1] at hj
 |some a=>
  cases h2:line[j]? with
  |none=>simp[h1,h2] at hj
  |some b=>
   simp[h1,h2] at hj;have:=h a (List.mem_of_getElem? h1);unfold Fq at hj
   split at hj<;>omega
theorem KC{n:Nat}{rs st:List Int}:∀k,k≤(Bj rs n).length→∀o,C8 (Bj rs n) st k=some o→o.length=n∧∀x∈o,-1≤x∧x≤1:=by
 intro k;induction k with
 |zero=>intro _ o h;simp[C8] at h
 |succ k ih=>
  intro hk o h;have cO:(Bj rs n)[k]? =some (Bj rs n)[k]:=List.getElem?_eq_getElem (by omega);rw[Ij cO] at h;obtain⟨eX,gB⟩:=Je (List.mem_of_getElem? cO);unfold FL at h
  split at h
  ·cases cC:C8 (Bj rs n) st k with
   |none=>
    rw[cC] at h;simp at h;subst h;exact⟨eX,fun x hx=>by have:=gB x hx;omega⟩
   |some o'=>
    rw[cC] at h;simp at h;subst h;obtain⟨e1,e2⟩:=ih (by omega) o' cC;exact⟨by rw[FC];omega,A24 e2⟩
  ·exact ih (by omega) o h
def D6(N key i:Nat):Int:=((key/2^(N-1-i) % 2:Nat):Int)
def Cw(r c key k:Nat):List (List Int):=(List.range r).map fun y=>(List.range c).map fun x=>if k≤y*c+x then D6 (r*c) key (y*c+x) else 0
def DU(r c key:Nat):List (List Int):=Cw r c key 0
theorem IN(N key i:Nat):0≤D6 N key i∧D6 N key i≤1:=by
 unfold D6;have:=Nat.mod_lt (key/2^(N-1-i)) (show 0<2 by decide);omega
theorem ME(r c key k:Nat):Ac r c (Cw r c key k):=by
 refine⟨by simp[Cw],fun row aG=>?_⟩;simp only[Cw,List.mem_map,List.mem_range] at aG;obtain⟨y,_,rfl⟩:=aG;refine⟨by simp,fun z hz=>?_⟩;simp only[List.mem_map,List.mem_range] at hz;obtain⟨x,_,rfl⟩:=hz
 split
 ·exact IN _ _ _
 ·decide
theorem SY{a b:List (List Int)}{r c:Nat}(ha:a.length=r)(hb:b.length=r)(h:∀y,y<r→∃p q,a[y]? =some p∧b[y]? =some q∧p.length=c∧q.length=c∧∀x,x<c→p[x]? =q[x]?):a=b:=by
 apply List.ext_getElem?;intro y;by_cases hy:y<r
 ·obtain⟨p,q,h1,h2,h3,h4,h5⟩:=h y hy;rw[h1,h2]
  congr 1
  apply List.ext_getElem?;intro x;by_cases hx:x<c
  ·exact h5 x hx
  ·rw[List.getElem?_eq_none (by omega),List.getElem?_eq_none (by omega)]
 ·rw[List.getElem?_eq_none (by omega),List.getElem?_eq_none (by omega)]
theorem WZ(r c key:Nat):Cw r c key (r*c)=List.replicate r (List.replicate c 0):=by
 apply SY (r:=r) (c:=c) (by simp[Cw]) (by simp);intro y hy;refine⟨_,List.replicate c 0,by simp[Cw,hy];rfl,by simp[hy],by simp,by simp,fun x hx=>?_⟩;have h1:y*c+x<r*c:=by
  have:(y+1)*c≤r*c:=Nat.mul_le_mul_right _ hy;rw[Nat.succ_mul] at this;omega
 simp[hx,Nat.not_le.2 h1]
theorem Gr{c y x k:Nat}(hx:x<c):y*c+x=k↔(k/c=y∧k % c=x):=by
 constructor
 ·rintro rfl;rw[Nat.mul_comm];exact⟨by rw[Nat.mul_add_div (by omega),Nat.div_eq_of_lt hx];omega,by rw[Nat.mul_add_mod,Nat.mod_eq_of_lt hx]⟩
 ·rintro⟨rfl,rfl⟩;rw[Nat.mul_comm];exact Nat.div_add_mod k c
theorem Wk{r c key k:Nat}(hc:0<c)(hk:k<r*c){row:List Int}(aG:(Cw r c key (k+1))[k/c]? =some row):Cw r c key k=(Cw r c key (k+1)).set (k/c) (row.set (k % c) (D6 (r*c) key k)):=by
 have hy:k/c<r:=by rw[Nat.div_lt_iff_lt_mul hc];exact hk
 have hx:k % c<c:=Nat.mod_lt _ hc;apply SY (r:=r) (c:=c) (by simp[Cw]) (by simp[Cw]);intro y gO;have gV:=aG;simp[Cw,hy] at gV;have hp:(Cw r c key k)[y]? =some ((List.range c).map fun x=>if k≤y*c+x then D6 (r*c) key (y*c+x) else 0):=by simp[Cw,gO]
 have nc:(Cw r c key (k+1))[y]? =some ((List.range c).map fun x=>if k+1≤y*c+x then D6 (r*c) key (y*c+x) else 0):=by simp[Cw,gO]
 by_cases iQ:y=k/c
 ·refine⟨_,_,hp,by rw[iQ,List.getElem?_set_self (by simp[Cw];exact hy)],by simp,by rw[←gV];simp,fun x hxc=>?_⟩;rw[←gV,List.getElem?_set];by_cases hxk:k % c=x
  ·rw[if_pos hxk,if_pos (by simpa using hx)];have e:y*c+x=k:=(Gr hxc).2 ⟨iQ.symm,hxk⟩;simp[hxc,e]
  ·rw[if_neg hxk];have e:y*c+x≠k:=fun h=>hxk ((Gr hxc).1 h).2;simp only[List.getElem?_map,List.getElem?_range hxc,Option.map_some,←iQ];by_cases h1:k≤y*c+x
   ·rw[if_pos h1,if_pos (by omega)]
   ·rw[if_neg h1,if_neg (by omega)]
 ·refine⟨_,_,hp,by rw[List.getElem?_set_ne (fun e=>iQ e.symm)];exact nc,by simp,by simp,fun x hxc=>?_⟩;have e:y*c+x≠k:=fun h=>iQ ((Gr hxc).1 h).1.symm;simp only[List.getElem?_map,List.getElem?_range hxc,Option.map_some];by_cases h1:k≤y*c+x
  ·rw[if_pos h1,if_pos (by omega)]
  ·rw[if_neg h1,if_neg (by omega)]
theorem A2F(c key:Nat):DU 1 c key=[AO c key]:=by
 simp[DU,Cw,AO,D6]
theorem A57(key N j:Nat)(hj:j<N):key/2^(N-(j+1)) /2=key/2^(N-j):=by
 rw[Nat.div_div_eq_div_mul,←Nat.pow_succ]
 congr 2;omega
end Go.Proofs.YthmocomfjgmjoaaGreatDoor
namespace Go.Proofs.YthmocomfjgmjoaaGreatDoor
open Go.RowKit
theorem WW(m:Nat)(hm:m≤62)(c:Int)(hc:c=((2^m-1:Nat):Int))(n:Int):bits .and .i64 n c=n % ((2^m:Nat):Int):=by
 have jp:2^m∣2^64:=Nat.pow_dvd_pow 2 (by omega);have aH:2^m≤2^62:=Nat.pow_le_pow_right (by decide) hm;have bF:0<2^m:=Nat.two_pow_pos m;have bQ:(BitVec.ofInt 64 c).toNat=2^m-1:=by
  rw[hc,BitVec.toNat_ofInt];have:2^m-1<2^64:=by omega
  rw[←Int.natCast_emod,Nat.mod_eq_of_lt this];rfl
 have key:(BitVec.ofInt 64 n&&&BitVec.ofInt 64 c).toNat=(n % ((2^64:Nat):Int)).toNat % 2^m:=by
  rw[BitVec.toNat_and,BitVec.toNat_ofInt,bQ,Nat.and_two_pow_sub_one_eq_mod]
 show IntKind.i64.wrap ((BitVec.ofInt 64 n&&&BitVec.ofInt 64 c).toNat:Nat)=n % _;rw[key,IntKind.wrap_i64];have h1:((n % ((2^64:Nat):Int)).toNat % 2^m:Nat)<2^m:=Nat.mod_lt _ bF;have h2:(((n % ((2^64:Nat):Int)).toNat % 2^m:Nat):Int)=n % ((2^m:Nat):Int):=by
  rw[Int.natCast_emod,Int.toNat_of_nonneg (Int.emod_nonneg _ (by decide))];exact Int.emod_emod_of_dvd n (Int.natCast_dvd_natCast.2 jp)
 rw[h2];have h3:0≤n % ((2^m:Nat):Int):=Int.emod_nonneg _ (by omega);have h4:n % ((2^m:Nat):Int)<((2^m:Nat):Int):=Int.emod_lt_of_pos _ (by omega);omega
theorem ZU(n:Int):bits .and .i64 n 255=n % 256:=WW 8 (by decide) 255 (by decide) n
theorem A4v(n:Int):bits .and .i64 n 1=n % 2:=WW 1 (by decide) 1 (by decide) n
def Y9:CG Int:=fun _ _ u n=>u=.int .u8 n∧0≤n∧n≤255
theorem R3:M3 Y9:=⟨fun _ h=>h,fun _ h=>h,fun h=>h,fun h=>by obtain⟨rfl,_⟩:=h;rfl⟩
abbrev Qa:=Rd (Sl Y9)
def Re(B:Nat)(w:World)(g:Nat):Prop:=
 B≤g∧∃(v:Value)(bs:List Int)(i:Nat)(h:Int),w.heap[g]? =some (.cells #[v,.int .i64 i,.int .i64 h] 99 (0,0))∧Sl Y9 (fun b=>b<B) w v bs∧i≤bs.length
theorem Re.keep{B g:Nat}{w w':World}(h:Re B w g)(hb:Below w.heap.size w w'):Re B w' g:=by
 obtain⟨h1,v,bs,i,x,h2,h3,h4⟩:=h;have hg:=lt_of_block h2;exact⟨h1,v,bs,i,x,(hb.block g hg).trans h2,(BY R3).same (A5 hb fun b kx=>by omega) h3,h4⟩
theorem Re.only{B g:Nat}{S:Bk}{w w':World}(h:Re B w g)(hb:Ar S w w')(hg:¬S g)(hS:∀b,S b→B≤b):Re B w' g:=by
 obtain⟨h1,v,bs,i,x,h2,h3,h4⟩:=h;have gy:=lt_of_block h2;exact⟨h1,v,bs,i,x,(hb.block g gy hg).trans h2,(BY R3).same (fun b kx=>hb.block b (by omega) (fun hs=>by have:=hS b hs;omega)) h3,h4⟩
theorem Re.lt{B g:Nat}{w:World}(h:Re B w g):g<w.heap.size:=by
 obtain⟨h1,v,bs,i,x,h2,h3,h4⟩:=h;exact lt_of_block h2
theorem Jo{w:World}{g j:Nat}{cs:Array Value}{t:TypeId}{u:Value}(h:w.heap[g]? =some (.cells cs t (0,0))):(w.setCell ⟨g,j,none⟩ u).heap[g]? =some (.cells (cs.setIfInBounds j u) t (0,0)):=heap_setCell_same w g j cs t u h
def A69(B g:Nat)(w:World)(P:Int→Prop)(e:Ending)(w':World):Prop:=∃n:Int,P n∧e=.returned (.int .i64 n)∧Re B w' g∧Ar (fun b=>b=g) w w'∧w.heap.size=w'.heap.size
theorem UO(n:Int):0≤bits .and .i64 n 255∧bits .and .i64 n 255≤255:=by rw[ZU];omega
theorem A2B{B g i:Nat}{w:World}{v:Value}{bs:List Int}{x:Int}(hB:B≤g)(h:w.heap[g]? =some (.cells #[v,.int .i64 i,.int .i64 x] 99 (0,0)))(iG:Sl Y9 (fun b=>b<B) w v bs)(hi:i≤bs.length)(x':Int)(n:Nat):
  Re B ((w.setCell ⟨g,2,none⟩ (.int .i64 x')).drewN n) g∧Ar (fun b=>b=g) w ((w.setCell ⟨g,2,none⟩ (.int .i64 x')).drewN n)∧w.heap.size=((w.setCell ⟨g,2,none⟩ (.int .i64 x')).drewN n).heap.size:=by
 refine⟨⟨hB,v,bs,i,x',Jo (w:=w) h,(BY R3).same (fun b hb=>?_) iG,hi⟩,?_,(A9 _ _ _).symm⟩
 ·exact Below.heap_setCell w _ _ b (by simp;omega)
 ·exact((Ar.refl (fun b=>b=g) w).setCell (p:=⟨g,2,none⟩) (.inl rfl) _).drewN n
theorem A22{B g i:Nat}{w:World}{v:Value}{bs:List Int}{x:Int}(hB:B≤g)(h:w.heap[g]? =some (.cells #[v,.int .i64 i,.int .i64 x] 99 (0,0)))(iG:Sl Y9 (fun b=>b<B) w v bs)(hi:i<bs.length)(x':Int)(n:Nat):
  Re B (((w.setCell ⟨g,2,none⟩ (.int .i64 x')).drewN n).setCell ⟨g,1,none⟩ (.int .i64 (i+1))) g∧Ar (fun b=>b=g) w (((w.setCell ⟨g,2,none⟩ (.int .i64 x')).drewN n).setCell ⟨g,1,none⟩ (.int .i64 (i+1)))∧
   w.heap.size=(((w.setCell ⟨g,2,none⟩ (.int .i64 x')).drewN n).setCell ⟨g,1,none⟩ (.int .i64 (i+1))).heap.size:=by
 have h1:=Jo (j:=2) (u:=.int .i64 x') h;have h2:=Jo (w:=(w.setCell ⟨g,2,none⟩ (.int .i64 x')).drewN n) (j:=1) (u:=.int .i64 (i+1)) h1;refine⟨⟨hB,v,bs,i+1,x',h2,(BY R3).same (fun b hb=>?_) iG,hi⟩,?_,by rw[A9];exact(A9 _ _ _).symm⟩
 ·rw[Below.heap_setCell _ _ _ b (by simp;omega)];exact Below.heap_setCell w _ _ b (by simp;omega)
 ·exact(((Ar.refl (fun b=>b=g) w).setCell (p:=⟨g,2,none⟩) (.inl rfl) _).drewN n).setCell (p:=⟨g,1,none⟩) (.inl rfl) _
theorem Mf(B g:Nat)(w:World)(h:Re B w g):Calls Tryz.prog 23 #[.pointer (some ⟨g,0,none⟩)] w (A69 B g w fun n=>0≤n∧n≤255):=by
 obtain⟨hB,v,bs,i,x,cB,iG,hi⟩:=h;obtain⟨a,cap,rfl,ak,mx,-,hc⟩:=id iG;have aM:∀j,w.cell? ⟨g,j,none⟩=#[Value.slice a bs.length cap,.int .i64 i,.int .i64 x][j]? :=fun j=>cell_of_row w g j _ _ _ cB;have cP:∀j,w.frozen? ⟨g,j,none⟩=false:=fun j=>frozen_of_row w g j _ _ cB;have c0:w.cell? ⟨g,0,none⟩=some (.slice a bs.length cap):=aM 0;have c1:w.cell? ⟨g,1,none⟩=some (.int .i64 i):=aM 1;have c2:w.cell? ⟨g,2,none⟩=some (.int .i64 x):=aM 2;have f1:=cP 1;have f2:=cP 2;clear aM cP;have rx:=Z cB;have Hbs:=Z iG;clear cB iG;by_cases aH:i<bs.length
 ·obtain⟨b,off,rfl,hbB,bQ⟩:=hc (by omega);obtain⟨y,hy⟩:∃y,bs[i]? =some y:=⟨_,List.getElem?_eq_getElem aH⟩;obtain⟨u,aQ,rfl,d5,hy2⟩:=bQ i y hy;have jt:b<g:=by omega
  clear hc bQ hy;go_enter Tryz.func23,Tryz.ntmps23;go_wp2;go_quiet (fail);go_wp2;go_quiet (fail);go_wp2;go_quiet (fail);go_wp2
  go_ret
  exact⟨_,UO _,rfl,A22 hB rx.o Hbs.o aH _ _⟩
 ·clear hc;go_enter Tryz.func23,Tryz.ntmps23;go_wp2;go_quiet (fail);go_wp2;go_quiet (fail);go_wp2
  go_ret
  exact⟨_,UO _,rfl,by rw[World.drewN_drewN];exact A2B hB rx.o Hbs.o hi _ _⟩
theorem Nd(B g:Nat)(n:Int)(w:World)(h:Re B w g)(h1:1≤n)(h2:n≤256):Calls Tryz.prog 80 #[.pointer (some ⟨g,0,none⟩),.int .i64 n] w (A69 B g w fun m=>0≤m∧m<n):=by
 go_enter Tryz.func80,Tryz.ntmps80;go_wp2_with (fail);refine(Mf B g _ h).mono ?_;rintro e w' ⟨m,⟨nW,sE⟩,rfl,hc,ho,hz⟩;have Hz:=Z hz;clear hz;have e1:0≤m % n:=Int.emod_nonneg _ (by omega);have e2:m % n<n:=Int.emod_lt_of_pos _ (by omega);have dY:(n==0)=false:=by simp;omega
 go_wp2
 go_ret
 exact⟨_,⟨e1,e2⟩,rfl,hc,ho,Hz.o⟩
theorem A10{w:World}{v:Value}{bs:List Int}(h:Qa w v bs)(x:Int):Re w.heap.size (w.alloc (.cells #[v,.int .i64 0,.int .i64 x] 99)) w.heap.size:=
 ⟨Nat.le_refl _,v,bs,0,x,heap_alloc_new w _,(BY R3).same (fun b hb=>Below.heap_alloc w _ b hb) h,Nat.zero_le _⟩
theorem YF(v:Value)(bs:List Int)(w:World)(hv:Qa w v bs):Calls Tryz.prog 27 #[v] w fun e w'=>∃g,e=.returned (.pointer (some ⟨g,0,none⟩))∧g=w.heap.size∧Re w.heap.size w' g∧Below w.heap.size w w'∧w'.heap.size=w.heap.size+1:=by
 obtain⟨a,cap,rfl,ak,cY,-,hc⟩:=id hv;have Hv:=Z hv;clear hv;go_enter Tryz.func27,Tryz.ntmps27;go_wp2
 go_loop [3,4] (fun h i=>∃(k:Nat)(x:Int),k≤bs.length∧i=.int .i64 k∧h=.int .i64 x) (fun _ i=>bs.length-(intOf i).toNat)
 case atStart=>exact⟨0,_,Nat.zero_le _,rfl,rfl⟩
 case round=>
  obtain⟨k,x,hk,rfl,rfl⟩:=hrel;by_cases aH:k<bs.length
  ·by_cases bt:k<4000
   ·obtain⟨b,off,rfl,hb,bQ⟩:=hc (by omega);obtain⟨y,hy⟩:∃y,bs[k]? =some y:=⟨_,List.getElem?_eq_getElem aH⟩;obtain⟨u,aQ,rfl,d5,hy2⟩:=bQ k y hy;clear hc bQ hy;go_wp2
    go_round
    case rel=>exact⟨k+1,_,by omega,by go_num,rfl⟩
    case measure=>simp[intOf];omega
   ·go_wp2
    go_ret
    exact⟨_,rfl,rfl,A10 Hv.o _,Below.pureAlloc _ _,by simp⟩
  ·go_wp2
   go_ret
   exact⟨_,rfl,rfl,A10 Hv.o _,Below.pureAlloc _ _,by simp⟩
theorem A3v(v:Value)(bs:List Int)(n:Nat)(w:World)(hv:Qa w v bs)(hn:n≤1048576):Calls Tryz.prog 22 #[v,.int .i64 n] w fun e w'=>∃g,e=.returned (.pointer (some ⟨g,0,none⟩))∧g=w.heap.size∧Re w.heap.size w' g∧Below w.heap.size w w'∧w'.heap.size=w.heap.size+1:=by
 go_enter Tryz.func22,Tryz.ntmps22;go_wp2_with (fail);refine(YF v bs _ hv).mono ?_;rintro e w1 ⟨g,rfl,rfl,eI,aA,aI⟩;have bV:=Z aI;clear aI;go_wp2_with (fail);go_loopw [6] (fun i wr=>∃k:Nat,k≤n∧i=.int .i64 k∧Re w.heap.size wr w.heap.size∧Below w.heap.size w wr∧wr.heap.size=w.heap.size+1) (fun i _=>n-(intOf i).toNat)
 case atStart=>exact⟨0,Nat.zero_le _,rfl,eI,aA,bV.o⟩
 case round=>
  clear eI aA bV;obtain⟨k,hk,rfl,eI,aA,aI⟩:=hrel;have bV:=Z aI;clear aI;by_cases aH:k<n
  ·go_wp2_with (fail);refine(Mf _ _ _ eI).mono ?_;rintro e w2 ⟨m,-,rfl,hcur2,ho,hz⟩;have Hz:=Z hz;clear hz;have aT:=aA.trans (ho.below (by have:=bV.o;omega) (fun b hb=>by omega));go_wp2;go_roundw
   case rel=>exact⟨k+1,by omega,by go_num,hcur2,aT,by rw[←Hz.o,bV.o]⟩
   case measure=>simp[intOf];omega
  ·go_wp2
   go_ret
   exact⟨_,rfl,rfl,eI,aA,bV.o⟩
theorem A2g(v:Value)(bs:List Int)(n:Nat)(w:World)(hv:Qa w v bs)(hn:n≤1048576):Calls Tryz.prog 7 #[v,.int .i64 n] w fun e w'=>∃r:Int,(0≤r∧r≤65535)∧e=.returned (.int .i64 r)∧Below w.heap.size w w':=by
 go_enter Tryz.func7,Tryz.ntmps7;go_wp2_with (fail);refine(A3v v bs n _ hv hn).mono ?_;rintro e w1 ⟨g,rfl,rfl,eI,aA,aI⟩;have bV:=Z aI;clear aI;go_wp2_with (fail);refine(Mf _ _ _ eI).mono ?_;rintro e w2 ⟨m,⟨nW,sE⟩,rfl,hcur2,ho,hz⟩;have Hz:=Z hz;clear hz;have aT:=aA.trans (ho.below (by have:=bV.o;omega) (fun b hb=>by omega));go_wp2_with (fail);refine(Mf _ _ _ hcur2).mono ?_;rintro e w3 ⟨m2,⟨hm20,hm21⟩,rfl,hcur3,fR,bT⟩;have n9:=Z bT;clear bT;have bK:=aT.trans (fR.below (by rw[←Hz.o];have:=bV.o;omega) (fun b hb=>by omega));go_wp2
 go_ret
 exact⟨_,⟨by omega,by omega⟩,rfl,bK⟩
def Bv(r c:Nat):List (List Int):=List.replicate r (List.replicate c 0)
theorem KI(r c:Nat)(w:World)(hr:r≤1048576)(hc:c≤1048576):Calls Tryz.prog 266 #[.int .i64 r,.int .i64 c] w (M7 32 (A4 3 A7) w (Bv r c)):=by
 go_enter Tryz.func266,Tryz.ntmps266;go_wp2;go_loopw [5,6] (fun v i wr=>∃k:Nat,k≤r∧i=.int .i64 k∧A4 32 (A4 3 A7) (Iv w.heap.size wr.heap.size) wr v (Bv k c)∧Below w.heap.size w wr) (fun _ i _=>r-(intOf i).toNat)
 case atStart=>exact⟨0,Nat.zero_le _,rfl,Bq _ _ _ (A3 A2),Below.pureAlloc _ _⟩
 case round=>
  obtain⟨k,hk,rfl,aB,aA⟩:=hrel;have aV:=aA.size;have aC:=Z aB;clear aB;by_cases aH:k<r
  ·have ah:(Bv k c).length<1099511627776:=by simp[Bv];omega
   go_wp2_with (first|(at_make;refine Ez _ rfl _ _ 32 rfl 3 Tryz.underlying32 As rfl (by decide) (R:=A7) 0 ⟨rfl,BV.small (by decide) (by decide)⟩ A2 c rfl rfl (by omega) ?_;intro w1 bH hbel1 dH;have f8:=Z dH;clear dH)|(at_builtin;(refine Aa rfl _ _ 31 rfl (A3 A2) 32 Tryz.underlying31 Es rfl (by decide) w.heap.size wr.heap.size aV hbel1.size rfl rfl (by exact A4.keep (A3 A2) aC.o hbel1 (Nat.le_refl _)) (by exact bH.point A2 (Nat.le_refl _) (by rw[f8.o];omega)) ah ?_);intro v2 w2 hown2 aT _)|fail);have au:=(aA.trans (hbel1.mono aV)).trans aT;have ae:=Z hown2;clear hown2;go_wp2;go_roundw
   case rel=>exact⟨k+1,by omega,by go_num,by simpa[Bv,List.replicate_succ'] using ae.o,au⟩
   case measure=>simp[intOf];omega
  ·go_wp2
   go_ret
   obtain rfl:k=r:=by omega
   exact⟨_,rfl,aC.o,aA⟩
theorem AC{E E':TypeId}{S:Bk}{w:World}{g n cap:Nat}{m:List (List Int)}(h:A4 E (A4 E' A7) S w (.slice (some ⟨g,0,none⟩) n cap) m){y:Nat}{row:List Int}(hy:m[y]? =some row)(aO:0<row.length):
  ∃q cq,w.cell? ⟨g,y,none⟩=some (.slice (some ⟨q,0,none⟩) row.length cq)∧S g∧S q∧q≠g∧row.length≤cq∧(∀x,x<row.length→(∃o,w.cell? ⟨q,x,none⟩=some (.int .i64 o))∧w.frozen? ⟨q,x,none⟩=false)∧
   (∀x o,row[x]? =some o→w.cell? ⟨q,x,none⟩=some (.int .i64 o))∧
   ∀(w':World),IR S w w'→∀(x:Nat)(n':Int),x<row.length→BV n'→A4 E (A4 E' A7) S (w'.setCell ⟨q,x,none⟩ (.int .i64 n')) (.slice (some ⟨g,0,none⟩) n cap) (m.set y (row.set x n')):=by
 obtain⟨hSg,-,-,-,T,u,hu,hr,hT,-,hback⟩:=h.focus (A3 A2) hy;obtain⟨q,cq,rfl,hq,di,cD,-⟩:=hr.inv_ne aO;refine⟨q,cq,hu,hSg,(hT q hq).1,(hT q hq).2,di,fun x hx=>?_,fun x o ho=>(hr.ints_cell ho).1,fun w' hs x n' hx hn'=>?_⟩
 ·obtain⟨o,h1,h2⟩:=hr.ints_at hx;exact⟨⟨o,h1⟩,h2⟩
 ·exact hback _ _ (fun b hb jz=>(Below.heap_setCell w' _ _ b (fun e=>by subst e;exact jz hq)).trans (hs b hb)) (((A3 A2).same (fun b hb=>hs b (hT b hb).1) hr).setInt hx hn')
theorem A1x{α:Type}{xs:List α}{z:α}{k:Nat}{x:α}(h:xs[k]? =some x):(xs.take k++List.replicate (xs.length-k) z).set k x=xs.take (k+1)++List.replicate (xs.length-(k+1)) z:=by
 obtain⟨hk,hx⟩:=List.getElem?_eq_some_iff.1 h;obtain⟨d,hd⟩:∃d,xs.length-k=d+1:=⟨xs.length-k-1,by omega⟩;rw[hd,show xs.length-(k+1)=d from by omega,List.set_append_right _ _ (by simp;omega),List.length_take,Nat.min_eq_left (Nat.le_of_lt hk),Nat.sub_self,List.replicate_succ,List.set_cons_zero,List.take_succ_eq_append_getElem hk,hx];simp
def Cy(n:Nat)(left:Int):Int:=if(n:Int)≤left then left-n else-1
theorem Oe(v:Value)(xs:List Int)(left:Int)(w:World)(hv:Ab w v xs)(h0:0≤left)(h1:left≤1048576):Calls Tryz.prog 60 #[v,.int .i64 left] w fun e w'=>e=.returned (.int .i64 (Cy xs.length left))∧w=w':=by
 obtain⟨a,cap,rfl,ak,cY,-,hc⟩:=hv;by_cases h:(xs.length:Int)≤left
 ·have hr:=Z (show Cy xs.length left=left-xs.length from by simp[Cy,h]);go_enter Tryz.func60,Tryz.ntmps60;go_wp2
  go_ret
  exact⟨CM hr.o.symm,rfl⟩
 ·have hr:=Z (show Cy xs.length left=-1 from by simp[Cy,h]);go_enter Tryz.func60,Tryz.ntmps60;go_wp2
  go_ret
  exact⟨CM hr.o.symm,rfl⟩
def bulk(g:List (List Int)):Nat:=g.length+cells g
theorem A1A(v:Value)(xs:List (List Int))(left:Int)(w:World)(hv:Ak w v xs)(h0:0≤left)(h1:left≤1048576):Calls Tryz.prog 59 #[v,.int .i64 left] w fun e w'=>e=.returned (.int .i64 (Cy (bulk xs) left))∧w=w':=by
 obtain⟨a,cap,rfl,ak,cY,-,hc⟩:=hv;by_cases h:(xs.length:Int)≤left
 ·go_enter Tryz.func59,Tryz.ntmps59;go_wp2
  go_loop [1,5] (fun m i=>∃k:Nat,k≤xs.length∧i=.int .i64 k∧(xs.length:Int)+cells (xs.take k)≤left∧m=.int .i64 (left-xs.length-cells (xs.take k))) (fun _ i=>xs.length-(intOf i).toNat)
  case atStart=>exact⟨0,Nat.zero_le _,rfl,by simpa[cells] using h,by simp[cells]⟩
  case round=>
   obtain⟨k,hk,rfl,hle2,rfl⟩:=hrel;have az:=DT xs k;by_cases aH:k<xs.length
   ·obtain⟨r,hr⟩:∃r,xs[k]? =some r:=⟨_,List.getElem?_eq_getElem aH⟩;obtain⟨b,off,rfl,-,bQ⟩:=hc (by omega);obtain⟨u,aQ,hu⟩:=bQ k _ hr;have hu:Ab w u r:=hu;have nR:=Ky hr;have lQ:=DT xs (k+1);have se:=Z nR;by_cases dE:(r.length:Int)≤left-xs.length-cells (xs.take k)
    ·have dD:=Oe u r (left-xs.length-cells (xs.take k)) w hu (by omega) (by omega);rw[show Cy r.length (left-xs.length-cells (xs.take k))=left-xs.length-cells (xs.take k)-r.length from by simp[Cy,dE]] at dD;have bU:=Z dD;have bF:0≤left-(xs.length:Int)-cells (xs.take k)-r.length:=by omega
     clear hc bQ hr nR hu dD;go_wp2_with (fail);refine bU.o.mono ?_;rintro e w' ⟨rfl,rfl⟩;go_wp2
     go_round
     case rel=>exact⟨k+1,by omega,by go_num,by rw[se.o];omega,by rw[se.o];congr 1;omega⟩
     case measure=>simp[intOf];omega
    ·have dD:=Oe u r (left-xs.length-cells (xs.take k)) w hu (by omega) (by omega);rw[show Cy r.length (left-xs.length-cells (xs.take k))=-1 from by simp[Cy,dE]] at dD;have bU:=Z dD;have cz:Cy (bulk xs) left=-1:=by unfold Cy bulk;rw[if_neg (by omega)]
     have Hbig:=Z cz;clear hc bQ hr nR hu dD cz;go_wp2_with (fail);refine bU.o.mono ?_;rintro e w' ⟨rfl,rfl⟩;go_wp2
     go_ret
     exact⟨CM Hbig.o.symm,rfl⟩
   ·obtain rfl:k=xs.length:=by omega
    rw[List.take_length] at hle2⊢;have hr:=Z (show Cy (bulk xs) left=left-xs.length-cells xs from by unfold Cy bulk;rw[if_pos (by omega)];omega);go_wp2
    go_ret
    exact⟨CM hr.o.symm,rfl⟩
 ·have hr:=Z (show Cy (bulk xs) left=-1 from by unfold Cy bulk;rw[if_neg (by omega)]);go_enter Tryz.func59,Tryz.ntmps59;go_wp2
  go_ret
  exact⟨CM hr.o.symm,rfl⟩
theorem A2b(v:Value)(xs:List (List Int))(w:World)(hv:Ak w v xs)(aP:xs.length≤1048576)(az:cells xs≤1048576):Calls Tryz.prog 69 #[v] w (M7 32 (A4 3 A7) w xs):=by
 obtain⟨a,cap,rfl,ak,-,-,hc⟩:=hv;go_enter Tryz.func69,Tryz.ntmps69;go_wp2_with (first|(at_make;refine Ez _ rfl _ _ 31 rfl 32 Tryz.underlying31 Es rfl (by decide) (R:=A4 3 A7) [] (A4.nil _ _ _ _) (A3 A2) xs.length rfl rfl (by omega) ?_;intro w1 aB aA aI));have aC:A4 32 (A4 3 A7) (Iv w.heap.size w1.heap.size) w1 (.slice (some ⟨w.heap.size,0,none⟩) xs.length xs.length) (xs.take 0++List.replicate (xs.length-0) []):=by simpa using aB.point (A3 A2) (Nat.le_refl _) (by omega)
 clear aB aI;go_loopw [4] (fun i wr=>∃k:Nat,k≤xs.length∧i=.int .i64 k∧A4 32 (A4 3 A7) (Iv w.heap.size wr.heap.size) wr (.slice (some ⟨w.heap.size,0,none⟩) xs.length xs.length) (xs.take k++List.replicate (xs.length-k) [])∧Below w.heap.size w wr) (fun i _=>xs.length-(intOf i).toNat)
 case atStart=>exact⟨0,Nat.zero_le _,rfl,aC,aA⟩
 case round=>
  clear aC aA;obtain⟨k,hk,rfl,aB,aA⟩:=hrel;have aV:=aA.size;by_cases aH:k<xs.length
  ·obtain⟨b,off,rfl,hb,bQ⟩:=hc (by omega);obtain⟨x,hx⟩:∃x,xs[k]? =some x:=⟨_,List.getElem?_eq_getElem aH⟩;obtain⟨u,aQ,hu⟩:=bQ k x hx;have hu:Ab w u x:=hu;have pB:=hu.keep aA;have nR:=Ky hx;have lQ:=DT xs (k+1);have lq:x.length≤1048576:=by omega
   have hl:(xs.take k++List.replicate (xs.length-k) ([]:List Int)).length=xs.length:=by simp;omega
   rw[←aA.cell (p:=⟨b,off+k,none⟩) hb] at aQ;have Hx:=Z hx;have Hl:=Z hl;have aC:=Z aB;clear hx hc bQ hl aB hu nR;go_wp2_with (fail);refine(Rq _ _ _ pB (by omega)).mono ?_;rintro e w2 ⟨v2,rfl,hown2,aT⟩;have hs2:=aT.size;obtain⟨p1,p2,p3,rfl⟩:=hown2.shape;have bY:=A4.keep (A3 A2) aC.o aT (Nat.le_refl _);obtain⟨y,hy⟩:∃y,(xs.take k++List.replicate (xs.length-k) ([]:List Int))[k]? =some y:=⟨_,List.getElem?_eq_getElem (by rw[Hl.o];exact aH)⟩;obtain⟨hg,-,-,hf,T,u0,hcell0,-,-,hupd,-⟩:=bY.focus (A3 A2) hy;have bN:=hupd _ _ (Iv wr.heap.size w2.heap.size) (Iv w.heap.size w2.heap.size) hown2 (fun b hb=>⟨⟨by have:=hb.1;omega,hb.2⟩,by have:=hb.1;have:=hg.2;omega⟩) (fun b h1 h2=>by have:=h1.1;have:=h2.2;omega) (fun b h1=>⟨h1.1,by have:=h1.2;omega⟩);rw[A1x Hx.o] at bN;have cJ:=Z bN;have wF:=aA.trans_pure aT (Nat.le_refl _);clear bY hy hupd bN hown2 aC hg;go_wp2;go_roundw
   case rel=>exact⟨k+1,by omega,by go_num,by rw[A9];exact cJ.o,wF.setCell (Nat.le_refl _) _⟩
   case measure=>simp[intOf];omega
  ·have aC:=Z aB;clear aB;go_wp2
   go_ret
   refine⟨_,rfl,?_,aA⟩;have h1:=aC.o;obtain rfl:k=xs.length:=by omega
   simpa using h1
theorem LL{α:Type}{l:List (List α)}{h:List α}(hh:l[0]? =some h):l.headD []=h:=by
 cases l with
 |nil=>simp at hh
 |cons a l=>simpa using hh
theorem A30(v:Value)(g:List (List Int))(lo hi:Int)(w:World)(hv:Ak w v g):Calls Tryz.prog 154 #[v,.int .i64 lo,.int .i64 hi] w fun e w'=>e=.returned (.bool (Dl lo hi g))∧w=w':=by
 obtain⟨a,cap,rfl,ak,cY,-,hc⟩:=hv;cases cA:BR 1 5 g.length
 ·have Hr:=Z (show Dl lo hi g=false from by simp[Dl,cA]);go_enter Tryz.func154,Tryz.ntmps154;go_wp2_with (first|(go_at_call 95;refine(B6 _ _ _ _).mono ?_;rintro e w' ⟨rfl,rfl⟩))
  go_ret
  exact⟨AI Hr.o.symm,rfl⟩
 have hb:=AT.1 cA;obtain⟨b,off,rfl,-,bQ⟩:=hc (by omega);obtain⟨hd,lg⟩:∃hd,g[0]? =some hd:=⟨_,List.getElem?_eq_getElem (by omega)⟩;obtain⟨u0,hck0,eL⟩:=bQ 0 hd lg;obtain⟨a0,cap0,rfl,-⟩:=eL;rw[Nat.add_zero] at hck0;have pJ:=Z (LL lg);have dM:=Z cA;clear lg hb;go_enter Tryz.func154,Tryz.ntmps154;go_wp2_with (first|(go_at_call 95;refine(B6 _ _ _ _).mono ?_;rintro e w' ⟨rfl,rfl⟩));clear cA
 go_loop [8,15] (fun _ i=>∃k:Nat,k≤g.length∧i=.int .i64 k∧(g.take k).all (EE lo hi hd.length)=true) (fun _ i=>g.length-(intOf i).toNat)
 case atStart=>exact⟨0,Nat.zero_le _,rfl,rfl⟩
 case round=>
  obtain⟨k,hk,rfl,aR⟩:=hrel;have aY:=Z aR;clear aR;by_cases aH:k<g.length
  ·obtain⟨r,hr⟩:∃r,g[k]? =some r:=⟨_,List.getElem?_eq_getElem aH⟩;obtain⟨u,aQ,hu⟩:=bQ k r hr;have hu:Ab w u r:=hu;obtain⟨ar,capr,rfl,-⟩:=id hu;have Hs:=Z (BO (EE lo hi hd.length) hr);have Hr:=Z hr;clear hr bQ hc;by_cases hl:r.length=hd.length
   ·have eX:r.length≤hd.length:=by omega
    have gB:hd.length≤r.length:=by omega
    have Hl:=Z hl;rw[hl] at aQ hu;clear hl;cases cA:BR 1 5 hd.length
    ·have Hf:=Z (show EE lo hi hd.length r=false from by unfold EE;rw[Hl.o,cA];simp);have Hg:=Z (show Dl lo hi g=false from by unfold Dl;rw[pJ.o,BH _ Hr.o Hf.o];simp);go_wp2_with (first|(go_at_call 95;refine(B6 _ _ _ _).mono ?_;rintro e w' ⟨rfl,rfl⟩))
     go_ret
     exact⟨AI Hg.o.symm,rfl⟩
    ·cases be:r.all (BR lo hi)
     ·have Hf:=Z (show EE lo hi hd.length r=false from by unfold EE;rw[be];simp);have Hg:=Z (show Dl lo hi g=false from by unfold Dl;rw[pJ.o,BH _ Hr.o Hf.o];simp);go_wp2_with (first|(go_at_call 95;refine(B6 _ _ _ _).mono ?_;rintro e w' ⟨rfl,rfl⟩)|(go_at_call 157;refine(C6 _ _ _ _ _ hu).mono ?_;rintro e w' ⟨rfl,rfl⟩))
      go_ret
      exact⟨AI Hg.o.symm,rfl⟩
     ·have Hf:=Z (show EE lo hi hd.length r=true from by unfold EE;rw[be,Hl.o,cA];simp);go_wp2_with (first|(go_at_call 95;refine(B6 _ _ _ _).mono ?_;rintro e w' ⟨rfl,rfl⟩)|(go_at_call 157;refine(C6 _ _ _ _ _ hu).mono ?_;rintro e w' ⟨rfl,rfl⟩))
      go_round
      case rel=>exact⟨k+1,by omega,by go_num,by rw[Hs.o,aY.o,Hf.o];rfl⟩
      case measure=>simp[intOf];omega
   ·have Hf:=Z (show EE lo hi hd.length r=false from by unfold EE;simp[hl]);have Hg:=Z (show Dl lo hi g=false from by unfold Dl;rw[pJ.o,BH _ Hr.o Hf.o];simp);have aO:((r.length:Int)==(hd.length:Int))=false:=by rw[beq_eq_false_iff_ne];omega
    go_wp2_with (first|(go_at_call 95;refine(B6 _ _ _ _).mono ?_;rintro e w' ⟨rfl,rfl⟩)|(go_at_call 157;refine(C6 _ _ _ _ _ hu).mono ?_;rintro e w' ⟨rfl,rfl⟩))
    all_goals try(exfalso;omega)
    go_ret
    exact⟨AI Hg.o.symm,rfl⟩
  ·have Hg:=Z (show Dl lo hi g=true from by unfold Dl;rw[pJ.o,dM.o,DK aY.o (by omega)];rfl);go_wp2
   go_ret
   exact⟨AI Hg.o.symm,rfl⟩
theorem AP(v:Value)(g:List (List Int))(w:World)(hv:Ak w v g):Calls Tryz.prog 84 #[v] w fun e w'=>e=.returned (.bool (Af g))∧w=w':=by
 go_enter Tryz.func84,Tryz.ntmps84;go_wp2_with (fail);refine(A30 _ _ _ _ _ hv).mono ?_;rintro e w' ⟨rfl,rfl⟩;go_wp2
 go_ret
 exact⟨rfl,rfl⟩
theorem AU(v:Value)(g:List (List Int))(w:World)(hv:Ak w v g):Calls Tryz.prog 138 #[v] w fun e w'=>e=.returned (.bool (Af g))∧w=w':=by
 obtain⟨a,cap,rfl,ak,cY,-,hc⟩:=hv;cases cA:BR 1 5 g.length
 ·have Hr:=Z (show Af g=false from by simp[Af,Dl,cA]);go_enter Tryz.func138,Tryz.ntmps138;go_wp2_with (first|(go_at_call 201;refine(AR _ _ _ _).mono ?_;rintro e w' ⟨rfl,rfl⟩))
  go_ret
  exact⟨AI Hr.o.symm,rfl⟩
 have hb:=AT.1 cA;obtain⟨b,off,rfl,-,bQ⟩:=hc (by omega);obtain⟨hd,lg⟩:∃hd,g[0]? =some hd:=⟨_,List.getElem?_eq_getElem (by omega)⟩;obtain⟨u0,hck0,eL⟩:=bQ 0 hd lg;obtain⟨a0,cap0,rfl,-⟩:=eL;rw[Nat.add_zero] at hck0;have pJ:=Z (LL lg);have Hhd0:=Z lg;have bF:0<g.length:=by omega
 clear lg hb;cases hinh:BR 1 5 hd.length
 ·have Hf:=Z (show EE 0 1 hd.length hd=false from by unfold EE;rw[hinh];simp);have Hg:=Z (show Af g=false from by unfold Af Dl;rw[pJ.o,BH _ Hhd0.o Hf.o];simp);go_enter Tryz.func138,Tryz.ntmps138;go_wp2_with (first|(go_at_call 201;refine(AR _ _ _ _).mono ?_;rintro e w' ⟨rfl,rfl⟩))
  go_ret
  exact⟨AI Hg.o.symm,rfl⟩
 have dM:=Z cA;have Hinh:=Z hinh;go_enter Tryz.func138,Tryz.ntmps138;go_wp2_with (first|(go_at_call 201;refine(AR _ _ _ _).mono ?_;rintro e w' ⟨rfl,rfl⟩));clear cA hinh
 go_loop [4,6,21] (fun _ _ i=>∃k:Nat,k≤g.length∧i=.int .i64 k∧(g.take k).all (EE 0 1 hd.length)=true) (fun _ _ i=>g.length-(intOf i).toNat)
 case atStart=>exact⟨0,Nat.zero_le _,rfl,rfl⟩
 case round=>
  obtain⟨k,hk,rfl,aR⟩:=hrel;have aY:=Z aR;clear aR;by_cases aH:k<g.length
  ·obtain⟨r,hr⟩:∃r,g[k]? =some r:=⟨_,List.getElem?_eq_getElem aH⟩;obtain⟨u,aQ,hu⟩:=bQ k r hr;obtain⟨ar,capr,rfl,hcapr,hler,-,jI⟩:=hu;have Hs:=Z (BO (EE 0 1 hd.length) hr);have Hr:=Z hr;clear hr bQ hc;by_cases hl:r.length=hd.length
   ·have eX:r.length≤hd.length:=by omega
    have gB:hd.length≤r.length:=by omega
    have Hl:=Z hl;clear hl;have dW:decide ((k:Int)<(g.length:Int))=true:=by simp;omega
    go_wp2
    go_loop [6,34] (fun _ i=>∃j:Nat,j≤r.length∧i=.int .i64 j∧(r.take j).all (BR 0 1)=true) (fun _ i=>r.length-(intOf i).toNat)
    case atStart=>exact⟨0,Nat.zero_le _,rfl,rfl⟩
    case round=>
     obtain⟨j,hj,rfl,hall2⟩:=hrel;have et:=Z hall2;clear hall2;by_cases hltj:j<r.length
     ·obtain⟨br,offr,rfl,-,ct⟩:=jI (by omega);obtain⟨x,hx⟩:∃x,r[j]? =some x:=⟨_,List.getElem?_eq_getElem hltj⟩;obtain⟨ux,fW,rfl,-⟩:=ct j x hx;have eW:=Z (BO (BR 0 1) hx);have Hx:=Z hx;clear hx ct jI;by_cases h0:x=0
      ·subst h0;go_wp2
       go_round
       case rel=>exact⟨j+1,by omega,by go_num,by rw[eW.o,et.o];rfl⟩
       case measure=>simp[intOf];omega
      ·by_cases h1:x=1
       ·subst h1;go_wp2
        go_round
        case rel=>exact⟨j+1,by omega,by go_num,by rw[eW.o,et.o];rfl⟩
        case measure=>simp[intOf];omega
       ·have hxf:BR 0 1 x=false:=by simp[BR];omega
        have Hf:=Z (show EE 0 1 hd.length r=false from by unfold EE;rw[BH _ Hx.o hxf];simp);have Hg:=Z (show Af g=false from by unfold Af Dl;rw[pJ.o,BH _ Hr.o Hf.o];simp);have dY:(x==0)=false:=by simpa using h0
        have eA:(x==1)=false:=by simpa using h1
        go_wp2
        go_ret
        exact⟨AI Hg.o.symm,rfl⟩
     ·have Hf:=Z (show EE 0 1 hd.length r=true from by unfold EE;rw[DK et.o (by omega),Hl.o,Hinh.o];simp);go_wp2
      go_round
      case rel=>exact⟨k+1,by omega,by go_num,by rw[Hs.o,aY.o,Hf.o];rfl⟩
      case measure=>simp[intOf];omega
   ·have Hf:=Z (show EE 0 1 hd.length r=false from by unfold EE;simp[hl]);have Hg:=Z (show Af g=false from by unfold Af Dl;rw[pJ.o,BH _ Hr.o Hf.o];simp);have aO:((r.length:Int)==(hd.length:Int))=false:=by rw[beq_eq_false_iff_ne];omega
    go_wp2
    all_goals try(exfalso;omega)
    go_ret
    exact⟨AI Hg.o.symm,rfl⟩
  ·have Hg:=Z (show Af g=true from by unfold Af Dl;rw[pJ.o,dM.o,DK aY.o (by omega)];rfl);go_wp2
   go_ret
   exact⟨AI Hg.o.symm,rfl⟩
def Ib(m:List (List Int))(r c y x:Nat):List (List Int):=(List.range c).map fun j=>(List.range r).map fun i=>if i<y∨(i=y∧j<x) then(m.getD i []).getD j 0 else 0
def tr(m:List (List Int)):List (List Int):=(List.range (m.headD []).length).map fun j=>(List.range m.length).map fun i=>(m.getD i []).getD j 0
def HJ(m:List (List Int)):List (List Int):=if Af m then tr m else[]
def A6(m:List (List Int)):List Int:=if Af m then m.map Ay else[]
def A8(m:List (List Int)):List Int:=A6 (HJ m)
theorem Pb(m:List (List Int))(r c:Nat):Ib m r c 0 0=Bv c r:=by
 simp[Ib,Bv,List.map_const']
theorem Pu(m:List (List Int))(r c y:Nat):Ib m r c y c=Ib m r c (y+1) 0:=by
 unfold Ib;apply List.map_congr_left;intro j hj;apply List.map_congr_left;intro i _;rw[List.mem_range] at hj;have:(i<y∨i=y∧j<c)↔(i<y+1∨i=y+1∧j<0):=by omega
 simp only[this]
theorem T8(m:List (List Int))(r c:Nat)(hr:m.length=r)(hc:(m.headD []).length=c):Ib m r c r 0=tr m:=by
 unfold Ib tr;rw[hr,hc];apply List.map_congr_left;intro j _;apply List.map_congr_left;intro i hi;rw[List.mem_range] at hi;rw[if_pos (.inl hi)]
theorem Ok{m:List (List Int)}{r c y x:Nat}(hx:x<c):(Ib m r c y x)[x]? =some ((List.range r).map fun i=>if i<y∨(i=y∧x<x) then(m.getD i []).getD x 0 else 0):=by
 simp[Ib,hx]
theorem R0{m:List (List Int)}{r c y x:Nat}{row:List Int}{z:Int}{q:List Int}(hx:x<c)(hy:y<r)(aG:m[y]? =some row)(hz:row[x]? =some z)(hq:(Ib m r c y x)[x]? =some q):(Ib m r c y x).set x (q.set y z)=Ib m r c y (x+1):=by
 rw[Ok hx] at hq;obtain rfl:=Option.some.inj hq;apply List.ext_getElem?;intro j;rw[List.getElem?_set];by_cases hj:x=j
 ·subst hj;simp only[if_true];have hl:x<(Ib m r c y x).length:=by simp[Ib,hx]
  rw[if_pos hl];simp only[Ib,List.getElem?_map,List.getElem?_range hx,Option.map_some]
  congr 1
  apply List.ext_getElem?;intro i;rw[List.getElem?_set];by_cases hi:y=i
  ·subst hi;simp[hy,aG,hz,List.getD]
  ·rw[if_neg hi];by_cases hir:i<r
   ·simp only[List.getElem?_map,List.getElem?_range hir,Option.map_some];have:(i<y∨i=y∧x<x)↔(i<y∨i=y∧x<x+1):=by omega
    simp only[this]
   ·rw[List.getElem?_eq_none (by simpa using hir),List.getElem?_eq_none (by simpa using hir)]
 ·rw[if_neg hj];by_cases hjc:j<c
  ·simp only[Ib,List.getElem?_map,List.getElem?_range hjc,Option.map_some]
   congr 1
   apply List.map_congr_left;intro i _;have:(i<y∨i=y∧j<x)↔(i<y∨i=y∧j<x+1):=by omega
   simp only[this]
  ·rw[List.getElem?_eq_none (by simpa[Ib] using hjc),List.getElem?_eq_none (by simpa[Ib] using hjc)]
theorem Ac.head{r c:Nat}{m:List (List Int)}(h:Ac r c m)(h1:1≤r):(m.headD []).length=c:=by
 obtain⟨row,hr,hl,-⟩:=h.row (y:=0) (by omega);rw[LL hr,hl]
theorem Ac.tr{r c:Nat}{m:List (List Int)}(h:Ac r c m)(h1:1≤r):Ac c r (tr m):=by
 refine⟨by simp only[Go.Proofs.YthmocomfjgmjoaaGreatDoor.tr,h.head h1,List.length_map,List.length_range],fun row aG=>?_⟩;simp only[Go.Proofs.YthmocomfjgmjoaaGreatDoor.tr,List.mem_map,List.mem_range] at aG;obtain⟨j,_,rfl⟩:=aG;refine⟨by simp[h.1],fun z hz=>?_⟩;simp only[List.mem_map,List.mem_range] at hz;obtain⟨i,hi,rfl⟩:=hz;obtain⟨row,aG,-,hb⟩:=h.row (y:=i) (by rw[←h.1];exact hi);simp only[List.getD,aG,Option.getD_some];cases fL:row[j]? with
 |none=>simp
 |some z=>simpa using hb z (List.mem_of_getElem? fL)
theorem ZV{m:List (List Int)}(h:Af m=true):Af (tr m)=true:=by
 obtain⟨r,c,h1,h2,h3,h4,hs⟩:=Ad h;exact(hs.tr h1).ok h3 h4 h1 h2
theorem A65{m:List (List Int)}{r c:Nat}(h:Ac r c m)(h1:1≤r){j:Nat}(hj:j<c):(tr m)[j]? =some ((List.range r).map fun i=>(m.getD i []).getD j 0):=by
 simp only[tr,h.head h1,h.1];simp[hj]
theorem Ac.ext{r c:Nat}{a b:List (List Int)}(ha:Ac r c a)(hb:Ac r c b)(h:∀y x,y<r→x<c→(a.getD y []).getD x 0=(b.getD y []).getD x 0):a=b:=by
 apply List.ext_getElem?;intro y;by_cases hy:y<r
 ·obtain⟨p,hp,qp,-⟩:=ha.row hy;obtain⟨q,hq,iR,-⟩:=hb.row hy;rw[hp,hq]
  congr 1
  apply List.ext_getElem?;intro x;by_cases hx:x<c
  ·have:=h y x hy hx;simp only[List.getD,hp,hq,Option.getD_some] at this;rw[List.getElem?_eq_getElem (by omega),List.getElem?_eq_getElem (by omega)] at this⊢;simpa using this
  ·rw[List.getElem?_eq_none (by omega),List.getElem?_eq_none (by omega)]
 ·rw[List.getElem?_eq_none (by rw[ha.1];omega),List.getElem?_eq_none (by rw[hb.1];omega)]
theorem Fm(m:List (List Int)):(A6 m).length≤5:=by
 unfold A6
 split
 ·rename_i h
  obtain⟨r,c,-,h2,-,-,hs⟩:=Ad h;simp[hs.1,h2]
 ·simp
theorem Ac.small{r c:Nat}{m:List (List Int)}(h:Ac r c m)(hc:c≤5){row:List Int}(hr:row∈m):Ix row:=by
 obtain⟨e,hb⟩:=h.2 row hr;exact⟨by omega,fun x hx=>by have:=hb x hx;omega⟩
theorem Ac.sum_bd{r c:Nat}{m:List (List Int)}(h:Ac r c m){row:List Int}(hr:row∈m):∀k,k≤row.length→0≤Ay (row.take k)∧Ay (row.take k)≤k:=by
 obtain⟨e,hb⟩:=h.2 row hr;intro k;induction k with
 |zero=>intro _;simp[Ay]
 |succ k ih=>
  intro hk;have h1:=ih (by omega);rw[Gs (List.getElem?_eq_getElem (show k<row.length by omega))];have:=hb _ (List.getElem_mem (show k<row.length by omega));omega
theorem Ac.sum_bd'{r c:Nat}{m:List (List Int)}(h:Ac r c m){row:List Int}(hr:row∈m):0≤Ay row∧Ay row≤row.length:=by
 have:=h.sum_bd hr row.length (Nat.le_refl _);rwa[PG (Nat.le_refl _)] at this
theorem K9(r c:Nat)(w:World)(hr:r≤1048576)(hc:c≤1048576):Calls Tryz.prog 105 #[.int .i64 r,.int .i64 c] w (M7 32 (A4 3 A7) w (Bv r c)):=by
 go_enter Tryz.func105,Tryz.ntmps105;go_wp2;go_loopw [5,6] (fun v i wr=>∃k:Nat,k≤r∧i=.int .i64 k∧A4 32 (A4 3 A7) (Iv w.heap.size wr.heap.size) wr v (Bv k c)∧Below w.heap.size w wr) (fun _ i _=>r-(intOf i).toNat)
 case atStart=>exact⟨0,Nat.zero_le _,rfl,A4.nil _ _ _ _,Below.refl _ _⟩
 case round=>
  obtain⟨k,hk,rfl,aB,aA⟩:=hrel;have aV:=aA.size;have aC:=Z aB;clear aB;by_cases aH:k<r
  ·have ah:(Bv k c).length<1099511627776:=by simp[Bv];omega
   go_wp2_with (first|(at_make;refine Ez _ rfl _ _ 32 rfl 3 Tryz.underlying32 As rfl (by decide) (R:=A7) 0 ⟨rfl,BV.small (by decide) (by decide)⟩ A2 c rfl rfl (by omega) ?_;intro w1 bH hbel1 dH;have f8:=Z dH;clear dH)|(at_builtin;(refine Aa rfl _ _ 31 rfl (A3 A2) 32 Tryz.underlying31 Es rfl (by decide) w.heap.size wr.heap.size aV hbel1.size rfl rfl (by exact A4.keep (A3 A2) aC.o hbel1 (Nat.le_refl _)) (by exact bH.point A2 (Nat.le_refl _) (by rw[f8.o];omega)) ah ?_);intro v2 w2 hown2 aT _)|fail);have au:=(aA.trans (hbel1.mono aV)).trans aT;have ae:=Z hown2;clear hown2;go_wp2;go_roundw
   case rel=>exact⟨k+1,by omega,by go_num,by simpa[Bv,List.replicate_succ'] using ae.o,au⟩
   case measure=>simp[intOf];omega
  ·go_wp2
   go_ret
   obtain rfl:k=r:=by omega
   exact⟨_,rfl,aC.o,aA⟩
theorem JD(v:Value)(m:List (List Int))(w:World)(hv:Ak w v m):Calls Tryz.prog 88 #[v] w (M7 32 (A4 3 A7) w (HJ m)):=by
 have Hv:=Z hv;obtain⟨a,cap0,rfl,ak,cY,-,hc⟩:=hv;cases aD:Af m
 ·have Hr:=Z (show HJ m=[] from by simp[HJ,aD]);have aS:=Z aD;clear aD;go_enter Tryz.func88,Tryz.ntmps88;go_wp2_with (fail);refine(AP _ _ _ Hv.o).mono ?_;rintro e w' ⟨rfl,rfl⟩;rw[aS.o];go_wp2
  go_ret
  exact⟨_,rfl,by rw[Hr.o];exact A4.nil _ _ _ _,Below.refl _ _⟩
 have Hr:=Z (show HJ m=tr m from by simp[HJ,aD]);obtain⟨r,c,hr1,hr5,hc1,hc5,bA⟩:=Ad aD;have bJ:m.length=r:=bA.1;have jQ:=Z bJ;have j3:=Z (bA.head hr1);obtain⟨fX,bG,hrl0,-⟩:=bA.row (y:=0) (by omega);obtain⟨b,off,rfl,hb,bQ⟩:=hc (by omega);obtain⟨u0,hck0,eL⟩:=bQ 0 fX bG;obtain⟨a0,cp0,rfl,-⟩:=eL;rw[hrl0,Nat.add_zero] at hck0;rw[bJ] at ak cY⊢;have aS:=Z aD;have Hv:=Hv;rw[bJ] at Hv;clear hc bQ bG hrl0 bJ aD;go_enter Tryz.func88,Tryz.ntmps88;go_wp2_with (fail);refine(AP _ _ _ Hv.o).mono ?_;rintro e w' ⟨rfl,rfl⟩;rw[aS.o];go_wp2_with (fail);refine(K9 c r _ (by omega) (by omega)).mono ?_;rintro e w1 ⟨v1,rfl,aB,aA⟩;have cX:=aA.size;obtain⟨G,cap,rfl,hG,hcapG,hGs,-⟩:=aB.inv_ne (by simp[Bv];omega);have gM:(Bv c r).length=c:=by simp[Bv]
 rw[gM] at hcapG aB⊢;rw[←Pb m r c] at aB;have aC:=Z aB;clear aB gM;go_wp2;go_loopw [4,5,6,7,20] (fun _ _ _ _ i wr=>∃k:Nat,k≤r∧i=.int .i64 k∧A4 32 (A4 3 A7) (Iv w.heap.size w1.heap.size) wr (.slice (some ⟨G,0,none⟩) c cap) (Ib m r c k 0)∧Below w.heap.size w wr∧w1.heap.size≤wr.heap.size) (fun _ _ _ _ i _=>r-(intOf i).toNat)
 case atStart=>exact⟨0,Nat.zero_le _,rfl,aC.o,aA,Nat.le_refl _⟩
 case round=>
  clear aC aA;obtain⟨k,hk,rfl,aB,aA,aI⟩:=hrel;by_cases aH:k<r
  ·obtain⟨row,aG,aw,eG⟩:=bA.row aH;obtain⟨u,aQ,hu⟩:=Sl.at Hv.o aG;have hu:Ab w u row:=hu;obtain⟨br,offr,cpr,rfl,dL,bB⟩:=hu.inv_ne (by omega);rw[←aA.cell (p:=⟨b,off+k,none⟩) hb] at aQ;rw[aw] at aQ hu;have aC:=Z aB;have da:=Z aG;have gJ:=Z aw;have Hu:=Z hu;clear aB aG aw hu;have oj:decide ((k:Int)<(r:Int))=true:=by simp;omega
   go_wp2;obtain⟨wo,hwo⟩:∃wo:World,wo=wr:=⟨_,rfl⟩;clear aQ;go_loopw [6,7,27] (fun _ _ i wr=>∃j:Nat,j≤c∧i=.int .i64 j∧A4 32 (A4 3 A7) (Iv w.heap.size w1.heap.size) wr (.slice (some ⟨G,0,none⟩) c cap) (Ib m r c k j)∧Below w.heap.size w wr∧w1.heap.size≤wr.heap.size) (fun _ _ i _=>c-(intOf i).toNat)
   case atStart=>exact⟨0,Nat.zero_le _,rfl,aC.o,aA,aI⟩
   case round=>
    clear aC aA aI hwo;obtain⟨j,hj,rfl,aB,aA,aI⟩:=hrel;by_cases hltj:j<c
    ·obtain⟨z,hz⟩:∃z,row[j]? =some z:=⟨_,List.getElem?_eq_getElem (by rw[gJ.o];exact hltj)⟩;have ii:=eG z (List.mem_of_getElem? hz);have mD:=Ab.at Hu.o hz;rw[←aA.cell (p:=⟨br,offr+j,none⟩) dL] at mD;have hq:=Ok (m:=m) (r:=r) (c:=c) (y:=k) hltj;obtain⟨q,cq,aM,-,hSq,hqG,di,hx,-,ap⟩:=AC aB hq (by simp;omega);have iR:((List.range r).map fun i=>if i<k∨(i=k∧j<j) then(m.getD i []).getD j 0 else 0).length=r:=by simp
     rw[iR] at aM di hx;obtain⟨⟨o,ke⟩,gN⟩:=hx k aH;have bN:=ap wr (fun _ _=>rfl) k z (by rw[iR];exact aH) (BV.small (by omega) (by omega));rw[R0 hltj aH da.o hz hq] at bN;have cJ:=Z bN;have cD:=hSq.1;clear aB hz hq hx ap iR bN;go_wp2;go_roundw
     case rel=>exact⟨j+1,by omega,by go_num,cJ.o,aA.setCell cD _,by rw[A9];exact aI⟩
     case measure=>simp[intOf];omega
    ·obtain rfl:j=c:=by omega
     rw[Pu] at aB;have aC:=Z aB;clear aB;go_wp2;go_roundw
     case rel=>exact⟨k+1,by omega,by go_num,aC.o,aA,aI⟩
     case measure=>simp[intOf];omega
  ·have aC:=Z aB;clear aB;go_wp2
   go_ret
   obtain rfl:k=r:=by omega
   refine⟨_,rfl,?_,aA⟩;rw[Hr.o,←T8 m k c jQ.o j3.o];exact(A3 (A3 A2)).mono (fun b hb=>⟨hb.1,Nat.lt_of_lt_of_le hb.2 aI⟩) aC.o
theorem Jx(v:Value)(m:List (List Int))(w:World)(hv:Ak w v m):Calls Tryz.prog 198 #[v] w (M7 32 (A4 3 A7) w (HJ m)):=by
 have Hv:=Z hv;obtain⟨a,cap0,rfl,ak,cY,-,hc⟩:=hv;cases aD:Af m
 ·have Hr:=Z (show HJ m=[] from by simp[HJ,aD]);have aS:=Z aD;clear aD;go_enter Tryz.func198,Tryz.ntmps198;go_wp2_with (fail);refine(AU _ _ _ Hv.o).mono ?_;rintro e w' ⟨rfl,rfl⟩;rw[aS.o];go_wp2
  go_ret
  exact⟨_,rfl,by rw[Hr.o];exact A4.nil _ _ _ _,Below.refl _ _⟩
 have Hr:=Z (show HJ m=tr m from by simp[HJ,aD]);obtain⟨r,c,hr1,hr5,hc1,hc5,bA⟩:=Ad aD;have bJ:m.length=r:=bA.1;have jQ:=Z bJ;have j3:=Z (bA.head hr1);obtain⟨fX,bG,hrl0,-⟩:=bA.row (y:=0) (by omega);obtain⟨b,off,rfl,hb,bQ⟩:=hc (by omega);obtain⟨u0,hck0,eL⟩:=bQ 0 fX bG;obtain⟨a0,cp0,rfl,-⟩:=eL;rw[hrl0,Nat.add_zero] at hck0;rw[bJ] at ak cY⊢;have aS:=Z aD;have Hv:=Hv;rw[bJ] at Hv;clear hc bQ bG hrl0 bJ aD;go_enter Tryz.func198,Tryz.ntmps198;go_wp2_with (fail);refine(AU _ _ _ Hv.o).mono ?_;rintro e w' ⟨rfl,rfl⟩;rw[aS.o];go_wp2_with (fail);refine(KI c r _ (by omega) (by omega)).mono ?_;rintro e w1 ⟨v1,rfl,aB,aA⟩;have cX:=aA.size;obtain⟨G,cap,rfl,hG,hcapG,hGs,-⟩:=aB.inv_ne (by simp[Bv];omega);have gM:(Bv c r).length=c:=by simp[Bv]
 rw[gM] at hcapG aB⊢;rw[←Pb m r c] at aB;have aC:=Z aB;clear aB gM;go_wp2;go_loopw [4,5,6,7,20] (fun _ _ _ _ i wr=>∃k:Nat,k≤r∧i=.int .i64 k∧A4 32 (A4 3 A7) (Iv w.heap.size w1.heap.size) wr (.slice (some ⟨G,0,none⟩) c cap) (Ib m r c k 0)∧Below w.heap.size w wr∧w1.heap.size≤wr.heap.size) (fun _ _ _ _ i _=>r-(intOf i).toNat)
 case atStart=>exact⟨0,Nat.zero_le _,rfl,aC.o,aA,Nat.le_refl _⟩
 case round=>
  clear aC aA;obtain⟨k,hk,rfl,aB,aA,aI⟩:=hrel;by_cases aH:k<r
  ·obtain⟨row,aG,aw,eG⟩:=bA.row aH;obtain⟨u,aQ,hu⟩:=Sl.at Hv.o aG;have hu:Ab w u row:=hu;obtain⟨br,offr,cpr,rfl,dL,bB⟩:=hu.inv_ne (by omega);rw[←aA.cell (p:=⟨b,off+k,none⟩) hb] at aQ;rw[aw] at aQ hu;have aC:=Z aB;have da:=Z aG;have gJ:=Z aw;have Hu:=Z hu;clear aB aG aw hu;have oj:decide ((k:Int)<(r:Int))=true:=by simp;omega
   go_wp2;obtain⟨wo,hwo⟩:∃wo:World,wo=wr:=⟨_,rfl⟩;clear aQ;go_loopw [6,7,27] (fun _ _ i wr=>∃j:Nat,j≤c∧i=.int .i64 j∧A4 32 (A4 3 A7) (Iv w.heap.size w1.heap.size) wr (.slice (some ⟨G,0,none⟩) c cap) (Ib m r c k j)∧Below w.heap.size w wr∧w1.heap.size≤wr.heap.size) (fun _ _ i _=>c-(intOf i).toNat)
   case atStart=>exact⟨0,Nat.zero_le _,rfl,aC.o,aA,aI⟩
   case round=>
    clear aC aA aI hwo;obtain⟨j,hj,rfl,aB,aA,aI⟩:=hrel;by_cases hltj:j<c
    ·obtain⟨z,hz⟩:∃z,row[j]? =some z:=⟨_,List.getElem?_eq_getElem (by rw[gJ.o];exact hltj)⟩;have ii:=eG z (List.mem_of_getElem? hz);have mD:=Ab.at Hu.o hz;rw[←aA.cell (p:=⟨br,offr+j,none⟩) dL] at mD;have hq:=Ok (m:=m) (r:=r) (c:=c) (y:=k) hltj;obtain⟨q,cq,aM,-,hSq,hqG,di,hx,-,ap⟩:=AC aB hq (by simp;omega);have iR:((List.range r).map fun i=>if i<k∨(i=k∧j<j) then(m.getD i []).getD j 0 else 0).length=r:=by simp
     rw[iR] at aM di hx;obtain⟨⟨o,ke⟩,gN⟩:=hx k aH;have bN:=ap wr (fun _ _=>rfl) k z (by rw[iR];exact aH) (BV.small (by omega) (by omega));rw[R0 hltj aH da.o hz hq] at bN;have cJ:=Z bN;have cD:=hSq.1;clear aB hz hq hx ap iR bN;go_wp2;go_roundw
     case rel=>exact⟨j+1,by omega,by go_num,cJ.o,aA.setCell cD _,by rw[A9];exact aI⟩
     case measure=>simp[intOf];omega
    ·obtain rfl:j=c:=by omega
     rw[Pu] at aB;have aC:=Z aB;clear aB;go_wp2;go_roundw
     case rel=>exact⟨k+1,by omega,by go_num,aC.o,aA,aI⟩
     case measure=>simp[intOf];omega
  ·have aC:=Z aB;clear aB;go_wp2
   go_ret
   obtain rfl:k=r:=by omega
   refine⟨_,rfl,?_,aA⟩;rw[Hr.o,←T8 m k c jQ.o j3.o];exact(A3 (A3 A2)).mono (fun b hb=>⟨hb.1,Nat.lt_of_lt_of_le hb.2 aI⟩) aC.o
theorem MU{m:List (List Int)}{k:Nat}{row:List Int}(h:m[k]? =some row):(m.take (k+1)).map Ay=(m.take k).map Ay++[Ay row]:=by
 rw[List.take_add_one,h];simp
theorem NN{m:List (List Int)}{k:Nat}(h:Af m=true)(hk:m.length≤k):(m.take k).map Ay=A6 m:=by
 rw[List.take_of_length_le hk,A6,if_pos h]
theorem E7(v:Value)(m:List (List Int))(w:World)(hv:Ak w v m):Calls Tryz.prog 33 #[v] w (M7 3 A7 w (A6 m)):=by
 have Hv:=Z hv;obtain⟨a,cap0,rfl,ak,cY,-,hc⟩:=hv;cases aD:Af m
 ·have Hr:=Z (show A6 m=[] from by simp[A6,aD]);have aS:=Z aD;clear aD;go_enter Tryz.func33,Tryz.ntmps33;go_wp2_with (fail);refine(AP _ _ _ Hv.o).mono ?_;rintro e w' ⟨rfl,rfl⟩;rw[aS.o];go_wp2
  go_ret
  exact⟨_,rfl,by rw[Hr.o];exact A4.nil _ _ _ _,Below.refl _ _⟩
 obtain⟨r,c,hr1,hr5,hc1,hc5,bA⟩:=Ad aD;have bJ:m.length≤5:=by have:=bA.1;omega
 have rX:1≤m.length:=by have:=bA.1;omega
 obtain⟨b,off,rfl,hb,bQ⟩:=hc (by omega);have aS:=Z aD;clear hc bQ aD;go_enter Tryz.func33,Tryz.ntmps33;go_wp2_with (fail);refine(AP _ _ _ Hv.o).mono ?_;rintro e w' ⟨rfl,rfl⟩;rw[aS.o];go_wp2;go_loopw [3,5,11] (fun v _ i wr=>∃k:Nat,k≤m.length∧i=.int .i64 k∧A4 3 A7 (Iv w.heap.size wr.heap.size) wr v ((m.take k).map Ay)∧Below w.heap.size w wr) (fun _ _ i _=>m.length-(intOf i).toNat)
 case atStart=>exact⟨0,Nat.zero_le _,rfl,A4.nil _ _ _ _,Below.refl _ _⟩
 case round=>
  obtain⟨k,hk,rfl,aB,aA⟩:=hrel;have aV:=aA.size;by_cases aH:k<m.length
  ·obtain⟨row,aG⟩:∃row,m[k]? =some row:=⟨_,List.getElem?_eq_getElem aH⟩;obtain⟨u,aQ,hu⟩:=Sl.at Hv.o aG;have hu:Ab w u row:=hu;obtain⟨br,cpr,rfl,-⟩:=id hu;rw[←aA.cell (p:=⟨b,off+k,none⟩) hb] at aQ;have iK:=bA.small hc5 (List.mem_of_getElem? aG);have fd:=bA.sum_bd' (List.mem_of_getElem? aG);have aw:=(bA.2 row (List.mem_of_getElem? aG)).1;have ce:0≤Ay row:=fd.1;have cX:Ay row≤5:=by omega
   have aJ:=Z (MU aG);have Hu:=Z (hu.keep aA);have ah:((m.take k).map Ay).length<1099511627776:=by simp;omega
   have aC:=Z aB;clear aG hu aB aw fd;go_wp2_with (first|(go_at_call 87;refine(G7 _ _ _ Hu.o iK).mono ?_;rintro e w' ⟨rfl,rfl⟩)|(at_builtin;(refine Aa rfl _ _ 32 rfl A2 3 Tryz.underlying32 As rfl (by decide) w.heap.size wr.heap.size aV (Nat.le_refl _) rfl rfl (by exact aC.o) (by exact⟨rfl,BV.small (by omega) (by omega)⟩) ah ?_);intro v2 w2 hown2 aT _)|fail);have ae:=Z hown2;clear hown2;go_wp2;go_roundw
   case rel=>exact⟨k+1,by omega,by go_num,by rw[aJ.o];exact ae.o,aA.trans aT⟩
   case measure=>simp[intOf];omega
  ·have aZ:=Z (NN aS.o (show m.length≤k by omega));have aC:=Z aB;clear aB;go_wp2
   go_ret
   exact⟨_,rfl,by rw[←aZ.o];exact aC.o,aA⟩
theorem FE(v:Value)(m:List (List Int))(w:World)(hv:Ak w v m):Calls Tryz.prog 140 #[v] w (M7 3 A7 w (A6 m)):=by
 have Hv:=Z hv;obtain⟨a,cap0,rfl,ak,cY,-,hc⟩:=hv;cases aD:Af m
 ·have Hr:=Z (show A6 m=[] from by simp[A6,aD]);have aS:=Z aD;clear aD;go_enter Tryz.func140,Tryz.ntmps140;go_wp2_with (fail);refine(AU _ _ _ Hv.o).mono ?_;rintro e w' ⟨rfl,rfl⟩;rw[aS.o];go_wp2
  go_ret
  exact⟨_,rfl,by rw[Hr.o];exact A4.nil _ _ _ _,Below.refl _ _⟩
 obtain⟨r,c,hr1,hr5,hc1,hc5,bA⟩:=Ad aD;have bJ:m.length≤5:=by have:=bA.1;omega
 have rX:1≤m.length:=by have:=bA.1;omega
 obtain⟨b,off,rfl,hb,bQ⟩:=hc (by omega);have aS:=Z aD;clear hc bQ aD;go_enter Tryz.func140,Tryz.ntmps140;go_wp2_with (fail);refine(AU _ _ _ Hv.o).mono ?_;rintro e w' ⟨rfl,rfl⟩;rw[aS.o];go_wp2;go_loopw [3,5,6,8,15] (fun v _ _ _ i wr=>∃k:Nat,k≤m.length∧i=.int .i64 k∧A4 3 A7 (Iv w.heap.size wr.heap.size) wr v ((m.take k).map Ay)∧Below w.heap.size w wr) (fun _ _ _ _ i _=>m.length-(intOf i).toNat)
 case atStart=>exact⟨0,Nat.zero_le _,rfl,Bq _ _ _ A2,Below.pureAlloc _ _⟩
 case round=>
  obtain⟨k,hk,rfl,aB,aA⟩:=hrel;have aV:=aA.size;by_cases aH:k<m.length
  ·obtain⟨row,aG⟩:∃row,m[k]? =some row:=⟨_,List.getElem?_eq_getElem aH⟩;obtain⟨u,aQ,hu⟩:=Sl.at Hv.o aG;have hu:Ab w u row:=hu;have aw:=(bA.2 row (List.mem_of_getElem? aG)).1;obtain⟨br,offr,cpr,rfl,dL,-⟩:=hu.inv_ne (by omega);rw[←aA.cell (p:=⟨b,off+k,none⟩) hb] at aQ;have wG:=bA.sum_bd (List.mem_of_getElem? aG);have rY:row.length≤5:=by omega
   have aJ:=Z (MU aG);have wH:=Z wG;have Hu:=Z (hu.keep aA);have ah:((m.take k).map Ay).length<1099511627776:=by simp;omega
   have aC:=Z aB;have Hbv:=Z (bA.2 row (List.mem_of_getElem? aG)).2;clear aG hu aB aw wG;have oj:decide ((k:Int)<(m.length:Int))=true:=by simp;omega
   go_wp2
   go_loop [6,8,21] (fun s _ i=>∃j:Nat,j≤row.length∧i=.int .i64 j∧s=.int .i64 (Ay (row.take j))) (fun _ _ i=>row.length-(intOf i).toNat)
   case atStart=>exact⟨0,Nat.zero_le _,rfl,rfl⟩
   case round=>
    obtain⟨j,hj,rfl,rfl⟩:=hrel;have aX:=(wH.o j hj).1;have dU:=(wH.o j hj).2;by_cases hltj:j<row.length
    ·obtain⟨x,hx⟩:∃x,row[j]? =some x:=⟨_,List.getElem?_eq_getElem hltj⟩;have fW:=Ab.at Hu.o hx;have eu:=(Hbv.o x (List.mem_of_getElem? hx)).1;have cM:=(Hbv.o x (List.mem_of_getElem? hx)).2;have pd:=Z (Gs hx);clear hx;go_wp2
     go_round
     case rel=>exact⟨j+1,by omega,by go_num,by rw[pd.o]⟩
     case measure=>simp[intOf];omega
    ·obtain rfl:j=row.length:=by omega
     rw[List.take_length] at aX dU⊢;go_wp2_with (first|(at_builtin;(refine Aa rfl _ _ 32 rfl A2 3 Tryz.underlying32 As rfl (by decide) w.heap.size wr.heap.size aV (Nat.le_refl _) rfl rfl (by exact aC.o) (by exact⟨rfl,BV.small (by omega) (by omega)⟩) ah ?_);intro v2 w2 hown2 aT _)|fail);have ae:=Z hown2;clear hown2;go_wp2;go_roundw
     case rel=>exact⟨k+1,by omega,by go_num,by rw[aJ.o];exact ae.o,aA.trans aT⟩
     case measure=>simp[intOf];omega
  ·have aZ:=Z (NN aS.o (show m.length≤k by omega));have aC:=Z aB;clear aB;go_wp2
   go_ret
   exact⟨_,rfl,by rw[←aZ.o];exact aC.o,aA⟩
theorem EA(v:Value)(m:List (List Int))(w:World)(hv:Ak w v m):Calls Tryz.prog 34 #[v] w (M7 3 A7 w (A8 m)):=by
 go_enter Tryz.func34,Tryz.ntmps34;go_wp2_with (fail);refine(JD _ _ _ hv).mono ?_;rintro e w1 ⟨v1,rfl,aB,aA⟩;have cX:=aA.size;go_wp2_with (fail);refine(E7 _ _ _ aB.grid).mono ?_;rintro e w2 ⟨v2,rfl,hown2,aT⟩;have ae:=Z hown2;clear hown2;go_wp2
 go_ret
 exact⟨_,rfl,(A3 A2).mono (fun b hb=>⟨Nat.le_trans cX hb.1,hb.2⟩) ae.o,aA.trans_pure aT (Nat.le_refl _)⟩
theorem GH(v:Value)(m:List (List Int))(w:World)(hv:Ak w v m):Calls Tryz.prog 141 #[v] w (M7 3 A7 w (A8 m)):=by
 go_enter Tryz.func141,Tryz.ntmps141;go_wp2_with (fail);refine(Jx _ _ _ hv).mono ?_;rintro e w1 ⟨v1,rfl,aB,aA⟩;have cX:=aA.size;go_wp2_with (fail);refine(FE _ _ _ aB.grid).mono ?_;rintro e w2 ⟨v2,rfl,hown2,aT⟩;have ae:=Z hown2;clear hown2;go_wp2
 go_ret
 exact⟨_,rfl,(A3 A2).mono (fun b hb=>⟨Nat.le_trans cX hb.1,hb.2⟩) ae.o,aA.trans_pure aT (Nat.le_refl _)⟩
def Gj(n:Int)(pG:List Int):Bool:=pG.all (BR 1 5)&&decide (Ay pG+pG.length-1≤n)
def Ba(rows cols:List (List Int)):Bool:=BR 1 5 rows.length&&BR 1 5 cols.length&&rows.all (Gj cols.length)&&cols.all (Gj rows.length)
theorem Nn{xs:List Int}(h:xs.all (BR 1 5)=true):∀k,k≤xs.length→(k:Int)≤Ay (xs.take k)∧Ay (xs.take k)≤5*k:=by
 rw[List.all_eq_true] at h;intro k;induction k with
 |zero=>intro _;simp[Ay]
 |succ k ih=>
  intro hk;have h1:=ih (by omega);rw[Gs (List.getElem?_eq_getElem (show k<xs.length by omega))];have:=AT.1 (h _ (List.getElem_mem (show k<xs.length by omega)));omega
theorem Iq(r c:Int)(w:World):Calls Tryz.prog 257 #[.int .i64 r,.int .i64 c] w fun e w'=>e=.returned (.bool (BR 1 5 r&&BR 1 5 c))∧w=w':=by
 cases h1:BR 1 5 r
 ·have H1:=Z h1;clear h1;go_enter Tryz.func257,Tryz.ntmps257;go_wp2_with (first|(go_at_call 201;refine(AR _ _ _ _).mono ?_;rintro e w' ⟨rfl,rfl⟩;(try rw[H1.o])))
  go_ret
  exact⟨rfl,rfl⟩
 ·have H1:=Z h1;clear h1;go_enter Tryz.func257,Tryz.ntmps257;go_wp2_with (fail);refine(AR _ _ _ _).mono ?_;rintro e w' ⟨rfl,rfl⟩;rw[H1.o];go_wp2_with (fail);refine(AR _ _ _ _).mono ?_;rintro e w' ⟨rfl,rfl⟩;go_wp2
  go_ret
  exact⟨rfl,rfl⟩
theorem Mi(v:Value)(xs:List Int)(n:Nat)(w:World)(hv:Ab w v xs)(eA:1≤n)(hn5:n≤5):Calls Tryz.prog 298 #[v,.int .i64 n] w fun e w'=>e=.returned (.bool (Gj n xs))∧w=w':=by
 have Hv:=Z hv;obtain⟨a,cap,rfl,ak,cY,-,-⟩:=hv;by_cases hl:(n:Int)<xs.length
 ·have dE:Gj n xs=false:=by
   unfold Gj;cases aR:xs.all (BR 1 5)
   ·rfl
   ·have:=(Nn aR xs.length (Nat.le_refl _)).1;rw[List.take_length] at this;simp;omega
  have fA:=Z dE;clear dE;go_enter Tryz.func298,Tryz.ntmps298;go_wp2
  go_ret
  exact⟨AI fA.o.symm,rfl⟩
 ·have hl5:xs.length≤5:=by omega
  go_enter Tryz.func298,Tryz.ntmps298;go_wp2
  go_loop [5,7,17] (fun s _ i=>∃k:Nat,k≤xs.length∧i=.int .i64 k∧s=.int .i64 (Ay (xs.take k)+xs.length-1)∧(xs.take k).all (BR 1 5)=true) (fun _ _ i=>xs.length-(intOf i).toNat)
  case atStart=>exact⟨0,Nat.zero_le _,rfl,by simp[Ay],rfl⟩
  case round=>
   obtain⟨k,hk,rfl,rfl,aR⟩:=hrel;have dr:=Nn aR k (by simp;omega);rw[List.take_take,Nat.min_self] at dr;have ce:=dr.1;have cX:=dr.2;have aY:=Z aR;clear dr aR;by_cases aH:k<xs.length
   ·obtain⟨x,hx⟩:∃x,xs[k]? =some x:=⟨_,List.getElem?_eq_getElem aH⟩;obtain⟨b,off,cpr,he,hb,-⟩:=Hv.o.inv_ne (by omega);obtain⟨rfl,-⟩:a=some ⟨b,off,none⟩∧cap=cpr:=by simpa using he
    have fW:=Ab.at Hv.o hx;have aJ:=Z (Gs hx);have iz:=Z (BO (BR 1 5) hx);have Hx:=Z hx;clear hx he;cases cA:BR 1 5 x
    ·have dM:=Z cA;clear cA;have Hf:=Z (show Gj n xs=false from by unfold Gj;rw[BH _ Hx.o dM.o];rfl);go_wp2_with (first|(go_at_call 201;refine(AR _ _ _ _).mono ?_;rintro e w' ⟨rfl,rfl⟩;rw[dM.o]))
     go_ret
     exact⟨AI Hf.o.symm,rfl⟩
    ·have gF:=AT.1 cA;have cM:=gF.1;have jb:=gF.2;have dM:=Z cA;clear cA gF;go_wp2_with (first|(go_at_call 201;refine(AR _ _ _ _).mono ?_;rintro e w' ⟨rfl,rfl⟩;rw[dM.o]))
     go_round
     case rel=>exact⟨k+1,by omega,by go_num,by rw[aJ.o];congr 1;omega,by rw[iz.o,aY.o,dM.o];rfl⟩
     case measure=>simp[intOf];omega
   ·obtain rfl:k=xs.length:=by omega
    rw[List.take_length] at ce cX⊢;have Hf:=Z (show Gj n xs=decide (Ay xs+xs.length-1≤n) from by unfold Gj;rw[DK aY.o (Nat.le_refl _)];rfl);go_wp2
    go_ret
    exact⟨AI Hf.o.symm,rfl⟩
theorem A3x{xs:List Int}(h:xs.all (BR 1 5)=true)(hl:xs.length≤1048576):Ix xs:=⟨hl,fun x hx=>by rw[List.all_eq_true] at h;have:=AT.1 (h x hx);omega⟩
theorem Ut(v:Value)(g:List (List Int))(n:Nat)(w:World)(hv:Ak w v g)(hn5:n≤5)(hl:∀r∈g,r.length≤1048576):Calls Tryz.prog 246 #[v,.int .i64 n] w fun e w'=>e=.returned (.bool (g.all (Gj n)))∧w=w':=by
 have Hv:=Z hv;obtain⟨a,cap,rfl,ak,cY,-,-⟩:=hv;go_enter Tryz.func246,Tryz.ntmps246;go_wp2
 go_loop [6,9] (fun _ i=>∃k:Nat,k≤g.length∧i=.int .i64 k∧(g.take k).all (Gj n)=true) (fun _ i=>g.length-(intOf i).toNat)
 case atStart=>exact⟨0,Nat.zero_le _,rfl,rfl⟩
 case round=>
  obtain⟨k,hk,rfl,aR⟩:=hrel;have aY:=Z aR;clear aR;by_cases aH:k<g.length
  ·obtain⟨r,hr⟩:∃r,g[k]? =some r:=⟨_,List.getElem?_eq_getElem aH⟩;obtain⟨b,off,cpr,he,hb,-⟩:=Hv.o.inv_ne (by omega);obtain⟨rfl,-⟩:a=some ⟨b,off,none⟩∧cap=cpr:=by simpa using he
   obtain⟨u,aQ,hu⟩:=Sl.at Hv.o hr;have hu:Ab w u r:=hu;obtain⟨ar,cpr,rfl,-⟩:=id hu;have aw:=hl r (List.mem_of_getElem? hr);have iz:=Z (BO (Gj n) hr);have Hr:=Z hr;have Hu:=Z hu;clear hr he hu hl;cases cA:r.all (BR 1 5)
   ·have dM:=Z cA;clear cA;have Hf:=Z (show g.all (Gj n)=false from BH _ Hr.o (by unfold Gj;rw[dM.o];rfl));go_wp2_with (first|(go_at_call 157;refine(C6 _ _ _ _ _ Hu.o).mono ?_;rintro e w' ⟨rfl,rfl⟩;rw[dM.o]))
    go_ret
    exact⟨AI Hf.o.symm,rfl⟩
   ·have iK:=A3x cA aw;have dr:=Nn cA r.length (Nat.le_refl _);rw[List.take_length] at dr;have ce:=dr.1;have cX:=dr.2;have dM:=Z cA;clear cA dr;have m6:=Z iK;clear iK;by_cases ns:(n:Int)<Ay r+r.length-1
    ·have Hf:=Z (show g.all (Gj n)=false from BH _ Hr.o (by unfold Gj;rw[dM.o];simp;omega));go_wp2_with (first|(go_at_call 157;refine(C6 _ _ _ _ _ Hu.o).mono ?_;rintro e w' ⟨rfl,rfl⟩;rw[dM.o])|(go_at_call 87;refine(G7 _ _ _ Hu.o m6.o).mono ?_;rintro e w' ⟨rfl,rfl⟩))
     go_ret
     exact⟨AI Hf.o.symm,rfl⟩
    ·have Hf:=Z (show Gj n r=true from by unfold Gj;rw[dM.o];simp;omega);go_wp2_with (first|(go_at_call 157;refine(C6 _ _ _ _ _ Hu.o).mono ?_;rintro e w' ⟨rfl,rfl⟩;rw[dM.o])|(go_at_call 87;refine(G7 _ _ _ Hu.o m6.o).mono ?_;rintro e w' ⟨rfl,rfl⟩))
     go_round
     case rel=>exact⟨k+1,by omega,by go_num,by rw[iz.o,aY.o,Hf.o];rfl⟩
     case measure=>simp[intOf];omega
  ·have Hf:=Z (show g.all (Gj n)=true from DK aY.o (by omega));go_wp2
   go_ret
   exact⟨AI Hf.o.symm,rfl⟩

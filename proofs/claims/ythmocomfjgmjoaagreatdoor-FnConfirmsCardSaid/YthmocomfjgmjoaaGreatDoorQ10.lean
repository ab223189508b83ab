/- Base. -/
import Derived.Test.YthmocomfjgmjoaaGreatDoorQ08
import Derived.Test.YthmocomfjgmjoaaGreatDoorQ00
import Derived.Lib.SortBridge
set_option maxHeartbeats 8000000
set_option maxRecDepth 100000
namespace Go.Proofs.YthmocomfjgmjoaaGreatDoor
open Go.RowKit
def Cz(xs:List Int)(n k j:Nat):List Int:=(List.range n).map fun i:Nat=>(((xs.take k).filter fun x=>decide ((i:Int)<x)).length:Int)+if i<j then 1 else 0
theorem Q6(xs:List Int)(n k:Nat):Cz xs n k 0=EC (xs.take k) n:=by
 unfold Cz EC;exact List.map_congr_left fun i _=>by simp
theorem Ow(xs:List Int)(n:Nat):Cz xs n 0 0=List.replicate n 0:=by
 unfold Cz;simp[List.map_const']
theorem Kf(xs:List Int)(n k j:Nat):(Cz xs n k j).length=n:=by simp[Cz]
theorem PQ{xs:List Int}{n k:Nat}{x:Int}(hx:xs[k]? =some x)(h0:0≤x):Cz xs n k x.toNat=Cz xs n (k+1) 0:=by
 unfold Cz;refine List.map_congr_left fun i _=>?_;rw[List.take_add_one,hx,List.filter_append,List.length_append];simp only[Option.toList_some,List.filter_cons,List.filter_nil];by_cases h:(i:Int)<x
 ·rw[if_pos (by omega)];simp[h]
 ·rw[if_neg (by omega)];simp[h]
theorem Uy{xs:List Int}{n k j i:Nat}(hi:i<n):∃z:Int,(Cz xs n k j)[i]? =some z∧0≤z∧z≤xs.length+1:=by
 unfold Cz;rw[List.getElem?_map,List.getElem?_range hi];refine⟨_,rfl,?_,?_⟩
 ·show(0:Int)≤_+_
  split<;>omega
 ·have h1:=List.length_filter_le (fun x=>decide ((i:Int)<x)) (xs.take k);have h2:(xs.take k).length≤xs.length:=by rw[List.length_take];omega
  show(_+_:Int)≤_
  split<;>omega
theorem SK{xs:List Int}{n k j:Nat}{z:Int}(hz:(Cz xs n k j)[j]? =some z):(Cz xs n k j).set j (z+1)=Cz xs n k (j+1):=by
 have hj:=(List.getElem?_eq_some_iff.1 hz).1;rw[Kf] at hj;apply List.ext_getElem?;intro i;rw[List.getElem?_set];by_cases hi:j=i
 ·subst hi;rw[if_pos rfl,if_pos (by rw[Kf];exact hj)];unfold Cz at hz⊢;rw[List.getElem?_map,List.getElem?_range hj] at hz⊢;simp only[Option.map_some,Option.some.injEq] at hz⊢;rw[if_neg (by omega)] at hz;rw[if_pos (by omega)];omega
 ·rw[if_neg hi];unfold Cz;rw[List.getElem?_map,List.getElem?_map];cases hr:(List.range n)[i]? with
  |none=>rfl
  |some i'=>
   have:i'=i:=by
    have h1:=(List.getElem?_eq_some_iff.1 hr).1;rw[List.length_range] at h1;rw[List.getElem?_range h1] at hr;exact(Option.some.inj hr).symm
   subst this;simp only[Option.map_some,Option.some.injEq];have:(i'<j)↔(i'<j+1):=by omega
   simp only[this]
theorem A3K{xs:List Int}{lo hi:Int}(h:xs.all (BR lo hi)=true){k:Nat}{x:Int}(hx:xs[k]? =some x):lo≤x∧x≤hi:=by
 have:=List.all_eq_true.1 h x (List.mem_of_getElem? hx);rwa[AT] at this
theorem TN(v:Value)(xs:List Int)(n:Nat)(w:World)(hv:Ab w v xs)(h1:1≤n)(h5:n≤5)(hl:xs.length≤5)(aR:xs.all (BR 0 n)=true):Calls Tryz.prog 158 #[v,.int .i64 n] w (M7 3 A7 w (EC xs n)):=by
 have Hv:=Z hv;have aY:=Z aR;have Hr:=Z (show BR 1 5 (n:Int)=true from Fg (by omega) (by omega));obtain⟨a,cap0,rfl,-,cY,-,hc⟩:=hv;clear aR;go_enter Tryz.func158,Tryz.ntmps158;go_wp2_with (first|(go_at_call 95;refine(B6 _ _ _ _).mono ?_;rintro e w' ⟨rfl,rfl⟩;rw[Hr.o])|(go_at_call 157;refine(C6 _ xs 0 n _ Hv.o).mono ?_;rintro e w' ⟨rfl,rfl⟩;rw[aY.o])|(at_make;refine Ez _ rfl _ _ 32 rfl 3 Tryz.underlying32 As rfl (by decide) (R:=A7) 0 ⟨rfl,BV.small (by decide) (by decide)⟩ A2 n rfl rfl (by omega) ?_;intro w1 bH hbel1 dH;have f8:=Z dH;clear dH));have bH:=bH.point A2 (Nat.le_refl w.heap.size) (show w.heap.size<w1.heap.size by rw[f8.o];omega);obtain⟨g,cap,hU,hg,ak,gy,-⟩:=bH.inv_ne (by simp;omega);rw[List.length_replicate] at hU ak;obtain⟨rfl,rfl⟩:w.heap.size=g∧n=cap:=by simpa using hU
 have aC:=Z (show A4 3 A7 (Iv w.heap.size w1.heap.size) w1 (.slice (some ⟨w.heap.size,0,none⟩) n n) (Cz xs n 0 0) from by rw[Ow];exact bH);clear bH;go_wp2;go_loopw [27] (fun i wr=>∃k:Nat,k≤xs.length∧i=.int .i64 k∧Hid (A4 3 A7 (Iv w.heap.size w1.heap.size) wr (.slice (some ⟨w.heap.size,0,none⟩) n n) (Cz xs n k 0))∧Below w.heap.size w wr∧wr.heap.size=w1.heap.size) (fun i _=>xs.length-(intOf i).toNat)
 case atStart=>exact⟨0,Nat.zero_le _,rfl,aC,hbel1,rfl⟩
 case round=>
  clear aC hbel1;obtain⟨k,hk,rfl,aC,aA,aI⟩:=hrel;have bV:=Z aI;clear aI;by_cases aH:k<xs.length
  ·obtain⟨b,off,rfl,hb,ct⟩:=hc (by omega);obtain⟨x,hx⟩:∃x,xs[k]? =some x:=⟨_,List.getElem?_eq_getElem aH⟩;obtain⟨u,aQ,rfl,-⟩:=ct k x hx;rw[←aA.cell (p:=⟨b,off+k,none⟩) hb] at aQ;obtain⟨eu,ny⟩:=A3K aY.o hx;have cQ:=Z (PQ (n:=n) hx eu);clear ct hx hc;go_wp2;go_loopw [8] (fun j wi=>∃j':Nat,(j':Int)≤x∧j=.int .i64 j'∧Hid (A4 3 A7 (Iv w.heap.size w1.heap.size) wi (.slice (some ⟨w.heap.size,0,none⟩) n n) (Cz xs n k j'))∧Below w.heap.size w wi∧wi.heap.size=w1.heap.size) (fun j _=>(x-intOf j).toNat)
   case atStart=>exact⟨0,eu,rfl,aC,aA,bV.o⟩
   case round=>
    clear aC aA bV aQ;obtain⟨j,hj,rfl,aC,aA,aI⟩:=hrel;have bV:=Z aI;clear aI;by_cases hltj:(j:Int)<x
    ·have pa:j<n:=by omega
     obtain⟨z,hz,dB,bZ⟩:=Uy (xs:=xs) (k:=k) (j:=j) pa;obtain⟨yw,hfj,-⟩:=aC.o.ints_cell hz;have fG:=Z (show A4 3 A7 (Iv w.heap.size w1.heap.size) (wr.setCell ⟨w.heap.size,j,none⟩ (.int .i64 (z+1))) (.slice (some ⟨w.heap.size,0,none⟩) n n) (Cz xs n k (j+1)) from by
      have h:=aC.o.setInt (k:=j) (by rw[Kf];exact pa) (c:=z+1) (BV.small (by omega) (by omega));rwa[SK hz] at h)
     have sT:=hg.1;clear hz aC;go_wp2;go_roundw
     case rel=>exact⟨j+1,by omega,by go_num,fG,aA.setCell sT _,by rw[A9];exact bV.o⟩
     case measure=>simp[intOf];omega
    ·have e:x.toNat=j:=by omega
     have He:=Z (show Cz xs n (k+1) 0=Cz xs n k j from by rw[←cQ.o,e]);clear e;go_wp2;go_roundw
     case rel=>exact⟨k+1,by omega,by go_num,by rw[He.o];exact aC,aA,bV.o⟩
     case measure=>simp[intOf];omega
  ·have e:k=xs.length:=by omega
   have He:=Z (show Cz xs n k 0=EC xs n from by rw[Q6,e,List.take_length]);clear e;go_wp2
   go_ret
   exact⟨_,rfl,by rw[←He.o,bV.o];exact aC.o,aA⟩
theorem TZ(v:Value)(xs:List Int)(n:Nat)(w:World)(hv:Ab w v xs)(h1:1≤n)(h5:n≤5)(hl:xs.length≤5)(aR:xs.all (BR 0 n)=true):Calls Tryz.prog 304 #[v,.int .i64 n] w (M7 3 A7 w (EC xs n)):=by
 have Hv:=Z hv;have aY:=Z aR;have Hr:=Z (show BR 1 5 (n:Int)=true from Fg (by omega) (by omega));obtain⟨a,cap0,rfl,-,cY,-,hc⟩:=hv;clear aR;go_enter Tryz.func304,Tryz.ntmps304;go_wp2_with (first|(go_at_call 201;refine(AR _ _ _ _).mono ?_;rintro e w' ⟨rfl,rfl⟩;rw[Hr.o])|(at_make;refine Ez _ rfl _ _ 32 rfl 3 Tryz.underlying32 As rfl (by decide) (R:=A7) 0 ⟨rfl,BV.small (by decide) (by decide)⟩ A2 n rfl rfl (by omega) ?_;intro w1 bH hbel1 dH;have f8:=Z dH;clear dH));have bH:=bH.point A2 (Nat.le_refl w.heap.size) (show w.heap.size<w1.heap.size by rw[f8.o];omega);obtain⟨g,cap,hU,hg,ak,gy,-⟩:=bH.inv_ne (by simp;omega);rw[List.length_replicate] at hU ak;obtain⟨rfl,rfl⟩:w.heap.size=g∧n=cap:=by simpa using hU
 have aC:=Z (show A4 3 A7 (Iv w.heap.size w1.heap.size) w1 (.slice (some ⟨w.heap.size,0,none⟩) n n) (Cz xs n 0 0) from by rw[Ow];exact bH);clear bH;go_wp2;go_loopw [21] (fun i wr=>∃k:Nat,k≤xs.length∧i=.int .i64 k∧Hid (A4 3 A7 (Iv w.heap.size w1.heap.size) wr (.slice (some ⟨w.heap.size,0,none⟩) n n) (Cz xs n k 0))∧Below w.heap.size w wr∧wr.heap.size=w1.heap.size) (fun i _=>xs.length-(intOf i).toNat)
 case atStart=>exact⟨0,Nat.zero_le _,rfl,aC,hbel1,rfl⟩
 case round=>
  clear aC hbel1;obtain⟨k,hk,rfl,aC,aA,aI⟩:=hrel;have bV:=Z aI;clear aI;by_cases aH:k<xs.length
  ·obtain⟨b,off,rfl,hb,ct⟩:=hc (by omega);obtain⟨x,hx⟩:∃x,xs[k]? =some x:=⟨_,List.getElem?_eq_getElem aH⟩;obtain⟨u,aQ,rfl,-⟩:=ct k x hx;rw[←aA.cell (p:=⟨b,off+k,none⟩) hb] at aQ;obtain⟨eu,ny⟩:=A3K aY.o hx;have cQ:=Z (PQ (n:=n) hx eu);have tx:=Z (show BR 0 (n:Int) x=true from Fg eu ny);clear ct hx hc;go_wp2_with (fail);refine(AR _ _ _ _).mono ?_;rintro e w' ⟨rfl,rfl⟩;rw[tx.o];go_wp2;go_loopw [8] (fun j wi=>∃j':Nat,(j':Int)≤x∧j=.int .i64 j'∧Hid (A4 3 A7 (Iv w.heap.size w1.heap.size) wi (.slice (some ⟨w.heap.size,0,none⟩) n n) (Cz xs n k j'))∧Below w.heap.size w wi∧wi.heap.size=w1.heap.size) (fun j _=>(x-intOf j).toNat)
   case atStart=>exact⟨0,eu,rfl,aC,aA,bV.o⟩
   case round=>
    clear aC aA bV aQ;obtain⟨j,hj,rfl,aC,aA,aI⟩:=hrel;have bV:=Z aI;clear aI;by_cases hltj:(j:Int)<x
    ·have pa:j<n:=by omega
     obtain⟨z,hz,dB,bZ⟩:=Uy (xs:=xs) (k:=k) (j:=j) pa;obtain⟨yw,hfj,-⟩:=aC.o.ints_cell hz;have fG:=Z (show A4 3 A7 (Iv w.heap.size w1.heap.size) (wr.setCell ⟨w.heap.size,j,none⟩ (.int .i64 (z+1))) (.slice (some ⟨w.heap.size,0,none⟩) n n) (Cz xs n k (j+1)) from by
      have h:=aC.o.setInt (k:=j) (by rw[Kf];exact pa) (c:=z+1) (BV.small (by omega) (by omega));rwa[SK hz] at h)
     have sT:=hg.1;clear hz aC;go_wp2;go_roundw
     case rel=>exact⟨j+1,by omega,by go_num,fG,aA.setCell sT _,by rw[A9];exact bV.o⟩
     case measure=>simp[intOf];omega
    ·have e:x.toNat=j:=by omega
     have He:=Z (show Cz xs n (k+1) 0=Cz xs n k j from by rw[←cQ.o,e]);clear e;go_wp2;go_roundw
     case rel=>exact⟨k+1,by omega,by go_num,by rw[He.o];exact aC,aA,bV.o⟩
     case measure=>simp[intOf];omega
  ·have e:k=xs.length:=by omega
   have He:=Z (show Cz xs n k 0=EC xs n from by rw[Q6,e,List.take_length]);clear e;go_wp2
   go_ret
   exact⟨_,rfl,by rw[←He.o,bV.o];exact aC.o,aA⟩
def FD(S:List Int)(p:Nat)(x:Int):List Int:=S.take p++x::S.drop p
theorem U4(S:List Int)(p:Nat)(x:Int):(FD S p x).length=S.length+1:=by
 unfold FD;rw[List.length_append,List.length_cons,List.length_take,List.length_drop];omega
theorem A2i(S:List Int)(x:Int):FD S S.length x=S++[x]:=by simp[FD]
theorem A38{S:List Int}{p:Nat}(hp:p≤S.length)(x:Int):(FD S p x)[p]? =some x:=by
 unfold FD;rw[List.getElem?_append_right (by rw[List.length_take];omega),List.length_take,Nat.min_eq_left hp,Nat.sub_self];rfl
theorem Kl{S:List Int}{p:Nat}{y:Int}(hy:S[p]? =some y)(x:Int):(FD S (p+1) x)[p]? =some y:=by
 unfold FD;have hp:=(List.getElem?_eq_some_iff.1 hy).1;rw[List.getElem?_append_left (by rw[List.length_take];omega),List.getElem?_take,if_pos (by omega)];exact hy
theorem Su:∀{S:List Int}{p:Nat}{y:Int},S[p]? =some y→∀x,((FD S (p+1) x).set (p+1) y).set p x=FD S p x
 |[],p,y,h,x=>by simp at h
 |a::S,0,y,h,x=>by
  simp at h;subst h;simp[FD]
 |a::S,p+1,y,h,x=>by
  have:=Su (S:=S) (p:=p) (y:=y) (by simpa using h) x;simp only[FD,List.take_succ_cons,List.drop_succ_cons,List.cons_append,List.set_cons_succ] at this⊢;rw[this]
theorem Nq:∀{S:List Int}{p:Nat}{x:Int},(∀y∈S.take p,x≤y)→(∀y∈S.drop p,y<x)→FD S p x=KH x S
 |[],p,x,_,_=>by simp[FD,KH]
 |a::S,0,x,_,h=>by
  have:=h a (by simp);simp only[FD,List.take_zero,List.drop_zero,List.nil_append,KH];rw[if_neg (by omega)]
 |a::S,p+1,x,h1,h2=>by
  have ha:=h1 a (by simp);have:=Nq (S:=S) (p:=p) (x:=x) (fun y hy=>h1 y (by simp[hy])) (fun y hy=>h2 y (by simpa using hy));simp only[FD,List.take_succ_cons,List.drop_succ_cons,List.cons_append,KH] at this⊢;rw[if_pos ha,this]
theorem A0j{xs:List Int}{k:Nat}{x:Int}(h:xs[k]? =some x):sortD (xs.take (k+1))=KH x (sortD (xs.take k)):=by
 unfold sortD;rw[List.take_add_one,h,List.foldl_append];rfl
theorem A07{S:List Int}(hd:OX S){p:Nat}{x y:Int}(hy:S[p]? =some y)(cf:x≤y)(h2:∀y∈S.drop (p+1),y<x):FD S (p+1) x=KH x S:=by
 refine Nq (fun z hz=>?_) h2;obtain⟨i,hi,rfl⟩:=List.getElem_of_mem hz;rw[List.length_take] at hi;rw[List.getElem_take];obtain⟨hp,rfl⟩:=List.getElem?_eq_some_iff.1 hy;unfold OX at hd;rw[List.pairwise_iff_getElem] at hd;by_cases hip:i=p
 ·subst hip;exact cf
 ·exact Int.le_trans cf (hd i p (by omega) hp (by omega))
theorem A2Q{S:List Int}{p:Nat}{x y:Int}(hy:S[p]? =some y)(cf:y<x)(h2:∀y∈S.drop (p+1),y<x):∀y∈S.drop p,y<x:=by
 intro z hz;rw[List.drop_eq_getElem_cons (List.getElem?_eq_some_iff.1 hy).1] at hz;rcases List.mem_cons.1 hz with e|hz
 ·obtain⟨hp,rfl⟩:=List.getElem?_eq_some_iff.1 hy;rw[e];exact cf
 ·exact h2 z hz
theorem We(v:Value)(xs:List Int)(w:World)(hv:Ab w v xs)(hl:xs.length≤1048576):Calls Tryz.prog 305 #[v] w (M7 3 A7 w (sortD xs)):=by
 obtain⟨a,cap0,rfl,-,cY,-,hc⟩:=hv;go_enter Tryz.func305,Tryz.ntmps305;go_wp2;go_loopw [3,11] (fun v i wr=>∃k:Nat,k≤xs.length∧i=.int .i64 k∧A4 3 A7 (Iv w.heap.size wr.heap.size) wr v (sortD (xs.take k))∧Below w.heap.size w wr) (fun _ i _=>xs.length-(intOf i).toNat)
 case atStart=>exact⟨0,Nat.zero_le _,rfl,Bq _ _ _ A2,Below.pureAlloc _ _⟩
 case round=>
  obtain⟨k,hk,rfl,aB,aA⟩:=hrel;obtain⟨wo,rfl⟩:∃wo:World,wo=wr:=⟨_,rfl⟩;have aV:=aA.size;by_cases aH:k<xs.length
  ·obtain⟨b,off,rfl,hb,ct⟩:=hc (by omega);obtain⟨x,hx⟩:∃x,xs[k]? =some x:=⟨_,List.getElem?_eq_getElem aH⟩;obtain⟨u,aQ,rfl,hI⟩:=ct k x hx;rw[←aA.cell (p:=⟨b,off+k,none⟩) hb] at aQ;obtain⟨S,hS⟩:∃S,S=sortD (xs.take k):=⟨_,rfl⟩;have hSl:S.length=k:=by rw[hS,CI,List.length_take];omega
   have sU:=Z (show sortD (xs.take (k+1))=KH x S from by rw[hS];exact A0j hx);have Hd:=Z (show OX S from by rw[hS];exact Ns _);rw[←hS] at aB;have ah:S.length<1099511627776:=by omega
   obtain⟨p1,p2,p3,rfl⟩:=aB.shape;have aC:=Z aB;have rB:=Z hSl;clear ct hx hc aB hS hSl;go_wp2_with (first|(at_builtin;(refine Aa rfl _ _ 32 rfl A2 3 Tryz.underlying32 As rfl (by decide) w.heap.size wo.heap.size aV (Nat.le_refl _) rfl rfl (by exact aC.o) (by exact⟨rfl,hI⟩) ah ?_);intro v2 w2 hown2 aT _;obtain⟨g,cap,rfl,hg,ak,gy,-⟩:=hown2.inv_ne (by simp))|fail);rw[show(S++[x]).length=k+1 from by rw[List.length_append,rB.o];rfl] at hown2 ak;rw[rB.o];have ae:=Z (show A4 3 A7 (Iv w.heap.size w2.heap.size) w2 (.slice (some ⟨g,0,none⟩) (k+1) cap) (FD S k x) from by have h:=A2i S x;rw[rB.o] at h;rw[h];exact hown2);have mf:=aA.trans aT;clear hown2 aA aT;go_wp2;go_loopw [6] (fun pv wi=>∃p:Nat,p≤k∧pv=.int .i64 p∧Hid (A4 3 A7 (Iv w.heap.size w2.heap.size) wi (.slice (some ⟨g,0,none⟩) (k+1) cap) (FD S p x))∧Hid (∀y∈S.drop p,y<x)∧Below w.heap.size w wi∧wi.heap.size=w2.heap.size) (fun pv _=>(intOf pv).toNat)
   case atStart=>exact⟨k,Nat.le_refl _,by go_num,ae,(by intro y hy;rw[List.drop_eq_nil_of_le (by rw[rB.o];exact Nat.le_refl _)] at hy;cases hy),mf,rfl⟩
   case round=>
    clear ae mf aQ;obtain⟨p,hp,rfl,aC,Hgt,aA,aI⟩:=hrel;have bV:=Z aI;clear aI;cases p with
    |zero=>
     have aZ:=Z (show FD S 0 x=KH x S from Nq (by simp) (by simpa using Hgt.o));have HO:=Z (show A4 3 A7 (Iv w.heap.size wr.heap.size) wr (.slice (some ⟨g,0,none⟩) (k+1) cap) (KH x S) from by rw[bV.o,←aZ.o];exact aC.o);go_wp2;go_quiet (fail);go_wp2;go_roundw
     case rel=>exact⟨k+1,by omega,by go_num,by rw[sU.o];exact HO.o,below_drewN aA _⟩
     case measure=>simp[intOf];omega
    |succ p=>
     have fp:p<S.length:=by rw[rB.o];omega
     obtain⟨y,hy⟩:∃y,S[p]? =some y:=⟨_,List.getElem?_eq_getElem fp⟩;obtain⟨c1,f1,I1⟩:=aC.o.ints_cell (A38 (p:=p+1) (by omega) x);obtain⟨c2,f2,I2⟩:=aC.o.ints_cell (Kl hy x);have hIx:=hI;by_cases cf:y<x
     ·have jg:decide (y<x)=true:=decide_eq_true cf;have tz:=Z (A2Q hy cf Hgt.o);have kt:=aC.o.setInt (k:=p+1) (by rw[U4,rB.o];omega) I2;have mg:=kt.setInt (k:=p) (by rw[List.length_set,U4,rB.o];omega) I1;rw[Su hy] at mg;have fG:=Z mg;have c3:(wr.setCell ⟨g,p+1,none⟩ (.int .i64 y)).cell? ⟨g,p,none⟩=some (.int .i64 y):=(kt.ints_cell (by rw[List.getElem?_set_ne (by omega)];exact Kl hy x)).1;have f3:(wr.setCell ⟨g,p+1,none⟩ (.int .i64 y)).frozen? ⟨g,p,none⟩=false:=(kt.ints_cell (by rw[List.getElem?_set_ne (by omega)];exact Kl hy x)).2.1;have sT:=hg.1;have hz:((p:Int)+1)-1=(p:Int):=by omega
      clear hy fp kt mg aC Hgt cf;go_wp2;go_quiet (fail);go_wp2;go_roundw
      case rel=>exact⟨p,by omega,by go_num,by exact fG.o,tz,((below_drewN aA _).setCell (show w.heap.size≤(⟨g,p+1,none⟩:Addr).block from sT) _).setCell (show w.heap.size≤(⟨g,p,none⟩:Addr).block from sT) _,by rw[A9,A9];exact bV.o⟩
      case measure=>simp[intOf]
     ·have jg:decide (y<x)=false:=decide_eq_false cf;have aZ:=Z (A07 Hd.o hy (by omega) Hgt.o);have HO:=Z (show A4 3 A7 (Iv w.heap.size wr.heap.size) wr (.slice (some ⟨g,0,none⟩) (k+1) cap) (KH x S) from by rw[bV.o,←aZ.o];exact aC.o);clear hy fp cf;go_wp2;go_quiet (fail);go_wp2;go_roundw
      case rel=>exact⟨k+1,by omega,by go_num,by rw[sU.o];exact HO.o,below_drewN aA _⟩
      case measure=>simp[intOf];omega
  ·have e:k=xs.length:=by omega
   have He:=Z (show sortD (xs.take k)=sortD xs from by rw[e,List.take_length]);have aC:=Z aB;clear e aB;go_wp2
   go_ret
   exact⟨_,rfl,by rw[←He.o];exact aC.o,aA⟩
theorem Sl.pre{α:Type}{R:CG α}{S:Bk}{w:World}{a:Option Addr}{n c:Nat}{xs:List α}(h:Sl R S w (.slice a n c) xs){k:Nat}(hk:k≤xs.length):Sl R S w (.slice a k c) (xs.take k):=by
 obtain⟨a',cap',he,h1,h2,h3,h4⟩:=h;simp only[Value.slice.injEq] at he;obtain⟨rfl,rfl,rfl⟩:=he;have hl:(xs.take k).length=k:=by rw[List.length_take];omega
 refine⟨a,c,by rw[hl],by omega,by omega,h3,fun h0=>?_⟩;obtain⟨b,off,rfl,hb,hc⟩:=h4 (by omega);refine⟨b,off,rfl,hb,fun j x hj=>hc j x ?_⟩;rw[List.getElem?_take] at hj
 split at hj
 ·exact hj
 ·cases hj
theorem Ab.pre{w:World}{a:Option Addr}{n c:Nat}{xs:List Int}(h:Ab w (.slice a n c) xs){k:Nat}(hk:k≤xs.length):Ab w (.slice a k c) (xs.take k):=Sl.pre h hk
theorem DM(xs:List Int)(n:Nat):(EC xs n).length=n:=by simp[EC]
theorem A2O{xs:List Int}{n:Nat}:∀x∈EC xs n,0≤x∧x≤xs.length:=by
 intro x hx;unfold EC at hx;obtain⟨i,-,rfl⟩:=List.mem_map.1 hx;have:=List.length_filter_le (fun x=>decide ((i:Int)<x)) xs;omega
theorem S1{xs:List Int}{n k:Nat}(h:xs.length≤5)(hn:n≤5):Ix ((EC xs n).take k):=by
 refine⟨by rw[List.length_take,DM];omega,fun x hx=>?_⟩;have:=A2O x (List.mem_of_mem_take hx);omega
theorem Qb{ys:List Int}{k:Nat}{m:Int}(h:ys.all (BR 0 m)=true)(hm:m≤5)(hl:ys.length≤5):Ix ((sortD ys).take k):=by
 refine⟨by rw[List.length_take,CI];omega,fun x hx=>?_⟩;have h1:x∈ys:=(Gt ys).mem_iff.1 (List.mem_of_mem_take hx);have:=List.all_eq_true.1 h x h1;rw[AT] at this;omega
theorem GG{xs ys:List Int}(h:AF xs ys=true):xs.all (BR 0 ys.length)=true∧ys.all (BR 0 xs.length)=true:=by
 unfold AF at h;simp only[Bool.and_eq_true] at h;exact⟨h.1.1.2,h.1.2⟩
theorem XB{xs ys:List Int}(h:AF xs ys=true){k:Nat}(hk:k≤ys.length):Ay ((EC xs ys.length).take k)=LI xs k:=
 A2R (fun x hx=>by have:=List.all_eq_true.1 (GG h).1 x hx;rw[AT] at this;exact this.1) hk
theorem OH{xs ys:List Int}{k:Nat}(h1:1≤k)(h2:k≤ys.length)(h:CP xs ys k)(hb:∀i,1≤i→i<k→¬CP xs ys i):Fw xs ys=k:=by
 unfold Fw;have e:(List.range ys.length).find? (fun i=>decide (CP xs ys (i+1)))=some (k-1):=by
  rw[List.find?_range_eq_some];refine⟨by rw[show k-1+1=k by omega];exact decide_eq_true h,List.mem_range.2 (by omega),fun j hj=>?_⟩;have:=hb (j+1) (by omega) (by omega);simp[this]
 rw[e];dsimp only;omega
theorem LD(xs ys:List Int):Fb xs ys≤ys.length:=by
 unfold Fb
 split
 ·by_cases h:Fw xs ys=0
  ·omega
  ·exact(A0U h).2.1
 ·omega
theorem UM{xs:List Int}(h:Ix xs)(hl:xs.length≤5):-5242880≤Ay xs∧Ay xs≤5242880:=by
 have:=Nu h xs.length (Nat.le_refl _);rw[List.take_length] at this;omega
theorem EL(v v2:Value)(xs ys:List Int)(w:World)(hv:Ab w v xs)(aW:Ab w v2 ys):Calls Tryz.prog 188 #[v,v2] w fun e w'=>e=.returned (.bool (AF xs ys))∧w=w':=by
 have Hv:=Z hv;have aj:=Z aW;obtain⟨a,cap,rfl,-,cY,-,hc⟩:=hv;obtain⟨a2,cap2,rfl,-,hle2,-,cH⟩:=aW;cases hs:(BR 1 5 xs.length&&BR 1 5 ys.length)
 ·have Hf:=Z (show AF xs ys=false from by unfold AF;rw[hs];rfl);have Hs:=Z hs;clear hs;go_enter Tryz.func188,Tryz.ntmps188;go_wp2_with (fail);refine(Iq _ _ _).mono ?_;rintro e w' ⟨rfl,rfl⟩;rw[Hs.o];go_wp2
  go_ret
  exact⟨AI Hf.o.symm,rfl⟩
 have dj:=hs;rw[Bool.and_eq_true,AT,AT] at dj;obtain⟨⟨h1,h2⟩,h3,h4⟩:=dj;have Hs:=Z hs;clear hs;go_enter Tryz.func188,Tryz.ntmps188;go_wp2_with (fail);refine(Iq _ _ _).mono ?_;rintro e w' ⟨rfl,rfl⟩;rw[Hs.o];go_wp2;go_loopw [17] (fun i wr=>∃k:Nat,k≤xs.length∧i=.int .i64 k∧Hid (∀x∈xs.take k,BR 0 (ys.length:Int) x=true)∧w=wr) (fun i _=>xs.length-(intOf i).toNat)
 case atStart=>exact⟨0,Nat.zero_le _,rfl,(by intro x hx;simp at hx),rfl⟩
 case round=>
  obtain⟨k,hk,rfl,aY,rfl⟩:=hrel;by_cases aH:k<xs.length
  ·obtain⟨b,off,rfl,hb,ct⟩:=hc (by omega);obtain⟨x,hx⟩:∃x,xs[k]? =some x:=⟨_,List.getElem?_eq_getElem aH⟩;obtain⟨u,aQ,rfl,-⟩:=ct k x hx;have Hx:=Z hx;clear ct hx hc;cases cA:BR 0 (ys.length:Int) x
   ·have dM:=Z cA;have Hf:=Z (show AF xs ys=false from by
     cases hh:AF xs ys
     ·rfl
     ·have:=List.all_eq_true.1 (GG hh).1 x (List.mem_of_getElem? Hx.o);rw[cA] at this;cases this)
    clear cA;go_wp2_with (fail);refine(AR _ _ _ _).mono ?_;rintro e w' ⟨rfl,rfl⟩;rw[dM.o];go_wp2
    go_ret
    exact⟨AI Hf.o.symm,rfl⟩
   ·have dM:=Z cA;clear cA;have et:=Z (show ∀z∈xs.take (k+1),BR 0 (ys.length:Int) z=true from by
     intro z hz;rw[List.take_add_one,Hx.o] at hz;rcases List.mem_append.1 hz with h|h
     ·exact aY.o z h
     ·simp at h;rw[h];exact dM.o)
    go_wp2_with (fail);refine(AR _ _ _ _).mono ?_;rintro e w' ⟨rfl,rfl⟩;rw[dM.o];go_wp2;go_roundw
    case rel=>exact⟨k+1,by omega,by go_num,et,by first|rfl|trivial⟩
    case measure=>simp[intOf];omega
  ·have sV:=Z (show xs.all (BR 0 (ys.length:Int))=true from by
    rw[List.all_eq_true];have h:=aY.o;rw[List.take_of_length_le (by omega)] at h;exact h)
   clear aY;go_wp2;go_loopw [29] (fun i wr=>∃k:Nat,k≤ys.length∧i=.int .i64 k∧Hid (∀x∈ys.take k,BR 0 (xs.length:Int) x=true)∧w=wr) (fun i _=>ys.length-(intOf i).toNat)
   case atStart=>exact⟨0,Nat.zero_le _,rfl,(by intro x hx;simp at hx),rfl⟩
   case round=>
    obtain⟨k,hk,rfl,aY,rfl⟩:=hrel;by_cases aH:k<ys.length
    ·obtain⟨b,off,rfl,hb,ct⟩:=cH (by omega);obtain⟨x,hx⟩:∃x,ys[k]? =some x:=⟨_,List.getElem?_eq_getElem aH⟩;obtain⟨u,aQ,rfl,-⟩:=ct k x hx;have Hx:=Z hx;clear ct hx cH;cases cA:BR 0 (xs.length:Int) x
     ·have dM:=Z cA;have Hf:=Z (show AF xs ys=false from by
       cases hh:AF xs ys
       ·rfl
       ·have:=List.all_eq_true.1 (GG hh).2 x (List.mem_of_getElem? Hx.o);rw[cA] at this;cases this)
      clear cA;go_wp2_with (fail);refine(AR _ _ _ _).mono ?_;rintro e w' ⟨rfl,rfl⟩;rw[dM.o];go_wp2
      go_ret
      exact⟨AI Hf.o.symm,rfl⟩
     ·have dM:=Z cA;clear cA;have et:=Z (show ∀z∈ys.take (k+1),BR 0 (xs.length:Int) z=true from by
       intro z hz;rw[List.take_add_one,Hx.o] at hz;rcases List.mem_append.1 hz with h|h
       ·exact aY.o z h
       ·simp at h;rw[h];exact dM.o)
      go_wp2_with (fail);refine(AR _ _ _ _).mono ?_;rintro e w' ⟨rfl,rfl⟩;rw[dM.o];go_wp2;go_roundw
      case rel=>exact⟨k+1,by omega,by go_num,et,by first|rfl|trivial⟩
      case measure=>simp[intOf];omega
    ·have yx:ys.all (BR 0 (xs.length:Int))=true:=by
      rw[List.all_eq_true];have h:=aY.o;rw[List.take_of_length_le (by omega)] at h;exact h
     have kf:=Ie sV.o (by omega) (by omega);have qS:=Ie yx (by omega) (by omega);have Hr:=Z (show AF xs ys=decide (Ay xs=Ay ys) from by unfold AF;rw[Hs.o,sV.o,yx];rfl);have HV:=Z (show Ab w (.slice a xs.length cap) xs from Hv.o);have uA:=Z (show Ab w (.slice a2 ys.length cap2) ys from aj.o);clear yx aY;go_wp2_with (fail);refine(Gy _ _ _ HV.o kf).mono ?_;rintro e w' ⟨rfl,rfl⟩;go_wp2_with (fail);refine(Gy _ _ _ uA.o qS).mono ?_;rintro e w' ⟨rfl,rfl⟩;go_wp2
     go_ret
     exact⟨AI (by rw[Hr.o,Bool.eq_iff_iff];simp),rfl⟩
theorem A4i(v v2:Value)(xs ys:List Int)(k:Nat)(w:World)(hv:Ab w v xs)(aW:Ab w v2 ys)(aD:AF xs ys=true)(h1:1≤k)(hk:k≤ys.length):Calls Tryz.prog 275 #[v,v2,.int .i64 k] w fun e w'=>e=.returned (.int .i64 (LI xs k-Ay ((sortD ys).take k)))∧Below w.heap.size w w':=by
 obtain⟨x1,x5,y1,y5,-,-,-⟩:=BC aD;obtain⟨ax,ay⟩:=GG aD;have Hv:=Z hv;have aj:=Z aW;have Hm:=Z (XB aD hk);have kf:=S1 (k:=k) x5 y5;have qS:=Qb (k:=k) ay (by omega) y5;have pd:=Z kf;have xP:=Z qS;have sV:=Z ax;obtain⟨a,cap,rfl,-⟩:=hv;obtain⟨a2,cap2,rfl,-⟩:=aW;clear aD ax ay kf qS;go_enter Tryz.func275,Tryz.ntmps275;go_wp2_with (fail);refine(TZ _ xs ys.length _ Hv.o y1 y5 x5 sV.o).mono ?_;rintro e w1 ⟨v1,rfl,o1,b1⟩;obtain⟨g,c1,rfl,-,hc1,-,-⟩:=o1.inv_ne (by rw[DM];omega);rw[DM] at hc1⊢;have iN:=o1.ints;rw[DM] at iN;have fe:=Z (iN.pre (k:=k) (by rw[DM];exact hk));have yG:k≤c1:=by omega
 clear o1 iN;go_wp2_with (fail);refine(Gy _ _ _ fe.o pd.o).mono ?_;rintro e w' ⟨rfl,rfl⟩;rw[Hm.o];go_wp2_with (fail);refine(We _ ys _ (aj.o.keep b1) (by omega)).mono ?_;rintro e w2 ⟨v2,rfl,o2,b2⟩;obtain⟨g2,c2,rfl,-,cH,-,-⟩:=o2.inv_ne (by rw[CI];omega);rw[CI] at cH⊢;have fR:=o2.ints;rw[CI] at fR;have cu:=Z (fR.pre (k:=k) (by rw[CI];exact hk));have yz:k≤c2:=by omega
 clear o2 fR;go_wp2_with (fail);refine(Gy _ _ _ cu.o xP.o).mono ?_;rintro e w' ⟨rfl,rfl⟩;have bb:=b1.trans_pure b2 (Nat.le_refl _);have B1:=UM pd.o (by rw[List.length_take,DM];omega);have B2:=UM xP.o (by rw[List.length_take,CI];omega);rw[Hm.o] at B1;go_wp2
 go_ret
 exact⟨CM (by go_num),bb⟩
theorem IG(v v2:Value)(xs ys:List Int)(w:World)(hv:Ab w v xs)(aW:Ab w v2 ys):Calls Tryz.prog 206 #[v,v2] w fun e w'=>e=.returned (.int .i64 (Fb xs ys))∧Below w.heap.size w w':=by
 have Hv:=Z hv;have aj:=Z aW;obtain⟨a,cap,rfl,-⟩:=hv;obtain⟨a2,cap2,rfl,-⟩:=aW;cases aD:AF xs ys
 ·have aS:=Z aD;have Hr:=Z (show Fb xs ys=0 from by unfold Fb;rw[aD];rfl);clear aD;go_enter Tryz.func206,Tryz.ntmps206;go_wp2_with (fail);refine(EL _ _ _ _ _ Hv.o aj.o).mono ?_;rintro e w' ⟨rfl,rfl⟩;rw[aS.o];go_wp2
  go_ret
  exact⟨CM (by rw[Hr.o];rfl),Below.refl _ _⟩
 have Hr:=Z (show Fb xs ys=Fw xs ys from by unfold Fb;rw[aD];rfl);obtain⟨x1,x5,y1,y5,-,-,-⟩:=BC aD;have aS:=Z aD;clear aD;go_enter Tryz.func206,Tryz.ntmps206;go_wp2_with (fail);refine(EL _ _ _ _ _ Hv.o aj.o).mono ?_;rintro e w' ⟨rfl,rfl⟩;rw[aS.o];go_wp2;go_loopw [5] (fun i wr=>∃k:Nat,1≤k∧k≤ys.length+1∧i=.int .i64 k∧Hid (∀i,1≤i→i<k→¬CP xs ys i)∧Below w.heap.size w wr) (fun i _=>(ys.length+1-intOf i).toNat)
 case atStart=>exact⟨1,Nat.le_refl _,by omega,rfl,(by intro i h1 h2;omega),Below.refl _ _⟩
 case round=>
  obtain⟨k,fU,hk,rfl,fh,aA⟩:=hrel;by_cases cY:k≤ys.length
  ·have hd:decide ((k:Int)≤(ys.length:Int))=true:=by rw[decide_eq_true_eq];omega
   go_wp2_with (fail);refine(A4i _ _ xs ys k _ (Hv.o.keep aA) (aj.o.keep aA) aS.o fU cY).mono ?_;rintro e w2 ⟨rfl,b2⟩;have au:=aA.trans_pure b2 (Nat.le_refl _);obtain⟨z,hz⟩:∃z,z=LI xs k-Ay ((sortD ys).take k):=⟨_,rfl⟩;rw[←hz];by_cases aH:z<0
   ·have Hw:=Z (OH fU cY (by unfold CP;omega) fh.o);clear hz;go_wp2
    go_ret
    exact⟨CM (by rw[Hr.o,Hw.o]),au⟩
   ·have kM:=Z (show ∀i,1≤i→i<k+1→¬CP xs ys i from by
     intro i h1 h2;by_cases e:i=k
     ·rw[e];unfold CP;omega
     ·exact fh.o i h1 (by omega))
    clear hz;go_wp2;go_roundw
    case rel=>exact⟨k+1,by omega,by omega,by go_num,kM,au⟩
    case measure=>simp[intOf];omega
  ·have hd:decide ((k:Int)≤(ys.length:Int))=false:=by rw[decide_eq_false_iff_not];omega
   have Hw:=Z (show Fw xs ys=0 from Lt.2 fun i h1 h2=>fh.o i h1 (by omega));go_wp2
   go_ret
   exact⟨CM (by rw[Hr.o,Hw.o];rfl),aA⟩
theorem DA(v v2:Value)(xs ys:List Int)(w:World)(hv:Ab w v xs)(aW:Ab w v2 ys):Calls Tryz.prog 185 #[v,v2] w fun e w'=>e=.returned (.bool (Bu xs ys))∧Below w.heap.size w w':=by
 have Hv:=Z hv;have aj:=Z aW;obtain⟨a,cap,rfl,-⟩:=hv;obtain⟨a2,cap2,rfl,-⟩:=aW;cases aD:AF xs ys
 ·have Hr:=Z (show Bu xs ys=false from by unfold Bu;rw[aD];rfl);have aS:=Z aD;clear aD;go_enter Tryz.func185,Tryz.ntmps185;go_wp2_with (first|(go_at_call 188;refine(EL _ _ _ _ _ Hv.o aj.o).mono ?_;rintro e w' ⟨rfl,rfl⟩;rw[aS.o]))
  go_ret
  exact⟨AI (by rw[Hr.o]),Below.refl _ _⟩
 ·have Hr:=Z (show Bu xs ys=decide (Fb xs ys=0) from by unfold Bu;rw[aD];rfl);have lr:=LD xs ys;obtain⟨x1,x5,y1,y5,-,-,-⟩:=BC aD;obtain⟨z,hz⟩:∃z,z=Fb xs ys:=⟨_,rfl⟩;rw[←hz] at lr;have Hz:=Z hz;have aS:=Z aD;clear aD hz;by_cases h0:z=0
  ·have hb:((z:Int)==0)=true:=by rw[beq_iff_eq];omega
   go_enter Tryz.func185,Tryz.ntmps185;go_wp2_with (first|(go_at_call 188;refine(EL _ _ _ _ _ Hv.o aj.o).mono ?_;rintro e w' ⟨rfl,rfl⟩;rw[aS.o])|(go_at_call 206;refine(IG _ _ _ _ _ Hv.o aj.o).mono ?_;rintro e w2 ⟨rfl,b2⟩;rw[←Hz.o]))
   go_ret
   exact⟨AI (by rw[Hr.o,←Hz.o,h0];rfl),b2⟩
  ·have hb:((z:Int)==0)=false:=by rw[beq_eq_false_iff_ne];omega
   go_enter Tryz.func185,Tryz.ntmps185;go_wp2_with (first|(go_at_call 188;refine(EL _ _ _ _ _ Hv.o aj.o).mono ?_;rintro e w' ⟨rfl,rfl⟩;rw[aS.o])|(go_at_call 206;refine(IG _ _ _ _ _ Hv.o aj.o).mono ?_;rintro e w2 ⟨rfl,b2⟩;rw[←Hz.o]))
   go_ret
   exact⟨AI (by rw[Hr.o,←Hz.o,decide_eq_false h0]),b2⟩
theorem A12{α:Type}{R:CG α}(hR:M3 R)(w:World)(E:TypeId){u:Value}{x:α}{T:Bk}{lo:Nat}(hu:R T w u x)(hT:∀b,T b→lo≤b∧b<w.heap.size)(hlo:lo≤w.heap.size):
  A4 E R (Iv lo (w.heap.size+1)) (w.alloc (.cells #[u] E)) (.slice (some ⟨w.heap.size,0,none⟩) 1 1) [x]:=by
 refine .inr ⟨w.heap.size,#[u],rfl,⟨hlo,Nat.lt_succ_self _⟩,heap_alloc_new w _,by simp,by simp[maxLen],by simp,fun k b=>T b∧k=0,fun k b hb=>⟨⟨(hT b hb.1).1,Nat.lt_succ_of_lt (hT b hb.1).2⟩,by have:=(hT b hb.1).2;omega⟩,fun j k b hj hk=>by rw[hj.2,hk.2],fun k y hk=>?_⟩;have aN:k=0:=by
  have:=(List.getElem?_eq_some_iff.1 hk).1;simpa using this
 subst aN;simp at hk;subst hk;exact⟨u,rfl,hR.mono (fun b hb=>⟨hb,rfl⟩) (hR.same (fun b hb=>Below.heap_alloc _ _ _ (hT b hb).2) hu)⟩
def J2(n:Nat)(k:Int)(x:Nat):List (List Int):=if(x:Int)≤k then(Cc n (k-x)).map ((x:Int):: ·) else[]
def DY(n:Nat)(k:Int)(x:Nat):List (List Int):=(List.range x).flatMap (J2 n k)
theorem OL(n:Nat)(k:Int):DY n k 0=[]:=by simp[DY]
theorem FY(n:Nat)(k:Int)(x:Nat):DY n k (x+1)=DY n k x++J2 n k x:=by
 unfold DY;rw[List.range_succ,List.flatMap_append];simp
theorem YI(n:Nat)(k:Int):DY n k 2=Cc (n+1) k:=by
 rw[FY,FY,OL,Cc];unfold J2;simp
theorem M2:∀(n:Nat)(k:Int),(Cc n k).length≤2^n
 |0,k=>by unfold Cc;split<;>simp
 |n+1,k=>by
  unfold Cc;have h1:=M2 n k;have h2:=M2 n (k-1);rw[List.length_append,Nat.pow_succ];have a1:(if 0≤k then(Cc n k).map (0:: ·) else[]).length≤2^n:=by split<;>simp[h1]
  have a2:(if 1≤k then(Cc n (k-1)).map (1:: ·) else[]).length≤2^n:=by split<;>simp[h2]
  omega
theorem Nc{n:Nat}(h:n≤5)(k:Int):(Cc n k).length≤32:=by
 have h1:=M2 n k;have h2:=Nat.pow_le_pow_right (n:=2) (by decide) h;omega
theorem XM{n:Nat}(h:n≤5)(k:Int)(x:Nat):(DY n k x).length≤x*32:=by
 induction x with
 |zero=>simp[DY]
 |succ x ih=>
  rw[FY,List.length_append];have:(J2 n k x).length≤32:=by
   unfold J2
   split
   ·rw[List.length_map];exact Nc h _
   ·simp
  omega
theorem TL{α β:Type}(f:α→β){L:List α}{j:Nat}{x:α}(h:L[j]? =some x):(L.take (j+1)).map f=(L.take j).map f++[f x]:=by
 rw[List.take_add_one,h,List.map_append];rfl
theorem A1O:(Tryz.prog.info? 32).map (fun i=>(i.zero,i.size,i.bytes))=some (some (.slice none 0 0),1,24):=by kernel_rfl
theorem A2K:∀(n:Nat)(k:Int)(w:World),n≤5→-100≤k→k≤100→Calls Tryz.prog 254 #[.int .i64 n,.int .i64 k] w (M7 32 (A4 3 A7) w (Cc n k)):=by
 intro n;induction n with
 |zero=>
  intro k w _ _ _;by_cases hk:k=0
  ·subst hk;have Hb:=Z (show Cc 0 0=[[]] from rfl);have h1:=Bq w 3 w.heap.size A2;have hz:(w.alloc (.cells #[] 3)).heap.size=w.heap.size+1:=by simp
   have h2:=A12 (A3 (E:=3) A2) (w.alloc (.cells #[] 3)) 32 (lo:=w.heap.size) h1 (fun b hb=>⟨hb.1,hb.2⟩) (by rw[hz];omega);rw[hz] at h2;have H2:=Z h2;clear h1 hz h2;go_enter Tryz.func254,Tryz.ntmps254;go_wp2
   go_ret
   refine⟨_,rfl,by rw[Hb.o];exact(A3 (A3 A2)).mono (S:=Iv w.heap.size (w.heap.size+1+1)) (fun b hb=>⟨hb.1,by have:=hb.2;simp at this⊢;omega⟩) H2.o,?_⟩;exact(Below.pureAlloc w _).trans_pure (Below.pureAlloc _ _) (Nat.le_refl _)
  ·have Hb:=Z (show Cc 0 k=[] from by unfold Cc;rw[if_neg hk]);have hd:(k==0)=false:=by rw[beq_eq_false_iff_ne];exact hk
   clear hk;go_enter Tryz.func254,Tryz.ntmps254;go_wp2
   go_ret
   exact⟨_,rfl,by rw[Hb.o];exact A4.nil _ _ _ _,Below.refl _ _⟩
 |succ n ih=>
  intro k w hn fU mU;have hn:n≤4:=by omega
  have IH:=Z ih;have iW:=Z (YI n k);obtain⟨N,hN⟩:∃N:Nat,N=n+1:=⟨_,rfl⟩;rw[←hN] at iW⊢;have mQ:((N:Int)==0)=false:=by rw[beq_eq_false_iff_ne];omega
  have eA:(N:Int)-1=(n:Int):=by omega
  clear ih hN;go_enter Tryz.func254,Tryz.ntmps254;go_wp2;go_loopw [5,6] (fun v i wr=>∃x:Nat,x≤2∧i=.int .i64 x∧Hid (A4 32 (A4 3 A7) (Iv w.heap.size wr.heap.size) wr v (DY n k x))∧Below w.heap.size w wr) (fun _ i _=>2-(intOf i).toNat)
  case atStart=>exact⟨0,by omega,rfl,by rw[OL];exact Bq _ _ _ (A3 A2),Below.pureAlloc _ _⟩
  case round=>
   obtain⟨x,hx,rfl,aC,aA⟩:=hrel;obtain⟨wo,rfl⟩:∃wo:World,wo=wr:=⟨_,rfl⟩;have aV:=aA.size;by_cases aH:x<2
   ·have jg:decide ((x:Int)<2)=true:=by rw[decide_eq_true_eq];omega
    by_cases fk:(x:Int)≤k
    ·have mA:decide (k≥(x:Int))=true:=decide_eq_true fk;have xQ:decide ((x:Int)≤k)=true:=decide_eq_true fk;obtain⟨L,hL⟩:∃L,L=Cc n (k-x):=⟨_,rfl⟩;have HL:=Z hL;have mh:L.length≤32:=by rw[hL];exact Nc (by omega) _
     have mi:=Z (show J2 n k x=L.map ((x:Int):: ·) from by unfold J2;rw[if_pos fk,hL]);clear hL;go_wp2_with (fail);refine(IH.o (k-x) _ (by omega) (by omega) (by omega)).mono ?_;rintro e wl ⟨vl,rfl,ol,bl⟩;rw[←HL.o] at ol;obtain⟨aL,cL,rfl,-⟩:=id ol.grid;have oM:=bl.size;have iX:=Z ol;have oK:=Z bl;have rC:L.length≤9223372036854775807:=by omega
     have ae:=Z (A4.keep (A3 A2) aC.o bl (Nat.le_refl _));have ep:=aA.trans_pure bl (Nat.le_refl _);clear ol aC;go_wp2;go_loopw [5,30] (fun v j wr=>∃j':Nat,j'≤L.length∧j=.int .i64 j'∧∃S,Hid (A4 32 (A4 3 A7) S wr v (DY n k x++(L.take j').map ((x:Int):: ·)))∧Hid (∀b,S b→(Iv w.heap.size wo.heap.size b∨wl.heap.size≤b)∧b<wr.heap.size)∧Hid (Ar (Iv w.heap.size wo.heap.size) wl wr)) (fun _ j _=>L.length-(intOf j).toNat)
     case atStart=>exact⟨0,Nat.zero_le _,rfl,Iv w.heap.size wo.heap.size,by rw[List.take_zero,List.map_nil,List.append_nil];exact ae.o,fun b hb=>⟨.inl hb,by have:=hb.2;omega⟩,Ar.refl _ _⟩
     case round=>
      clear ae;obtain⟨j,hj,rfl,S,Hs,HS,Ho⟩:=hrel;obtain⟨wi,rfl⟩:∃wi:World,wi=wr:=⟨_,rfl⟩;have hsi:=Ho.o.size;obtain⟨s1,s2,s3,rfl⟩:=Hs.o.shape;by_cases hltj:j<L.length
      ·obtain⟨l,hl⟩:∃l,L[j]? =some l:=⟨_,List.getElem?_eq_getElem hltj⟩;obtain⟨gL,capL,heL,-⟩:=iX.o.inv_ne (by omega);simp only[Value.slice.injEq,true_and] at heL;obtain⟨rfl,ct⟩:=heL;subst ct;have gW:A4 32 (A4 3 A7) (Iv wo.heap.size wl.heap.size) wi (.slice (some ⟨gL,0,none⟩) L.length cL) L:=(A3 (A3 A2)).same (fun b hb=>Ho.o.block b hb.2 fun h=>by have:=h.2;have:=hb.1;omega) iX.o;obtain⟨-,-,-,-,T,uk,aM,fD,hT,-⟩:=gW.focus (A3 A2) hl;obtain⟨y1,y2,y3,rfl⟩:=fD.shape;have dX:l.length=n:=by
        have h:=List.mem_of_getElem? hl;rw[HL.o] at h;exact(FQ.1 h).1
       have Hl:=Z hl;have HT:=Z hT;have h1:=A12 A2 wi 3 (u:=.int .i64 x) (x:=(x:Int)) (T:=fun _=>False) (lo:=wi.heap.size) ⟨rfl,BV.small (by omega) (by omega)⟩ (fun _ h=>h.elim) (Nat.le_refl _);have H1:=Z h1;have f9:=Z (Below.pureAlloc wi (.cells #[.int .i64 x] 3));have ii:(wi.alloc (.cells #[.int .i64 (x:Int)] 3)).heap.size=wi.heap.size+1:=by simp
       have uB:=Z ii;have zA:=Z (Ab.keep fD.ints f9.o);have fs:([(x:Int)]:List Int).length+l.length≤1099511627776:=by simp;omega
       have ft:(DY n k x++(L.take j).map ((x:Int):: ·)).length<1099511627776:=by
        have:=XM (n:=n) (by omega) k x;rw[List.length_append,List.length_map,List.length_take];omega
       have HsK:=Z (show ∀W,Below wi.heap.size wi W→A4 32 (A4 3 A7) S W (.slice s1 s2 s3) (DY n k x++(L.take j).map ((x:Int):: ·)) from fun W hW=>(A3 (A3 A2)).same (A5 hW fun b hb=>(HS.o b hb).2) Hs.o);clear gW fD hT hl dX h1 ii;go_wp2_with (first
        |(at_builtin;refine DJ rfl _ _ 32 rfl 3 Tryz.underlying32 As rfl (Iv wi.heap.size (wi.heap.size+1)) rfl rfl (by exact H1.o) (by exact zA.o) fs ?_;intro v2 w2 hown2 honly2 _;obtain⟨q1,q2,q3,rfl⟩:=hown2.shape;have au:=Z (f9.o.trans (honly2.below (by rw[uB.o];omega) (fun b hb=>(H1.o.ownBlock' b hb).1)));have kH:=Z ((A3 A2).mono (S':=Iv wi.heap.size w2.heap.size) (fun b hb=>hb.elim (fun h=>⟨h.1,by have h1:=h.2;have h2:=honly2.size;rw[uB.o] at h2;omega⟩) (fun h=>⟨by have h1:=h.1;rw[uB.o] at h1;omega,h.2⟩)) hown2);have hs2:=au.o.size;clear hown2 honly2)
        |(at_builtin;(refine F4 (w:=w2.alloc (.cells #[.slice q1 q2 q3] 32)) (v:=.slice s1 s2 s3) (u:=.slice q1 q2 q3) (x:=(x:Int)::l) (gb:=w2.heap.size) (c:=1) rfl _ _ 31 rfl (A3 A2) 32 Tryz.underlying31 A1O rfl (by decide) S (Iv wi.heap.size w2.heap.size) rfl rfl (by exact(Aw.new w2 #[.slice q1 q2 q3] 32).cell 0) (by exact HsK.o _ (au.o.trans_pure (Below.pureAlloc _ _) (Nat.le_refl _))) (by exact(A3 A2).same (A5 (Below.pureAlloc w2 _) fun b hb=>hb.2) kH.o) (fun b h1 h2=>by have:=(HS.o b h1).2;have:=h2.1;omega) (fun b h1=>by have:=(HS.o b h1).2;simp;omega) (fun b h1=>by have:=h1.2;simp;omega) ft ?_;intro v3 w3 o3 h3;obtain⟨z1,z2,z3,rfl⟩:=o3.shape))
        |fail)
       have cn:=Z o3;have h23:wi.heap.size≤(w2.alloc (.cells #[.slice q1 q2 q3] 32)).heap.size:=by simp;omega
       have HO:=Z (show Ar (Iv w.heap.size wo.heap.size) wl w3 from(Ho.o.trans' (Ar.of_pure (au.o.trans_pure (Below.pureAlloc _ (.cells #[.slice q1 q2 q3] 32)) (Nat.le_refl _)) _)).trans' (h3.mono fun b hb _=>by
        have:=(HS.o b (Hs.o.ownBlock' b hb)).1;exact this))
       have aJ:=Z (TL ((x:Int):: ·) Hl.o);clear o3 h3;go_wp2;go_roundw
       case rel=>exact⟨j+1,by omega,by go_num,fun b=>(S b∨Iv wi.heap.size w2.heap.size b∨(w2.alloc (.cells #[.slice q1 q2 q3] 32)).heap.size≤b)∧b<w3.heap.size,by rw[aJ.o,←List.append_assoc];exact cn.o,fun b hb=>⟨hb.1.elim (fun h=>(HS.o b h).1) (fun h=>h.elim (fun h=>.inr (by have:=h.1;omega)) (fun h=>.inr (by omega))),hb.2⟩,HO.o⟩
       case measure=>simp[intOf];omega
      ·have aZ:=Z (show DY n k x++(L.take j).map ((x:Int):: ·)=DY n k (x+1) from by rw[FY,mi.o,List.take_of_length_le (by omega)]);have iT:Below w.heap.size w wi:=ep.trans (Ho.o.below (by omega) fun b hb=>hb.1);go_wp2;go_roundw
       case rel=>exact⟨x+1,by omega,by go_num,by rw[←aZ.o];exact(A3 (A3 A2)).mono (fun b hb=>⟨(HS.o b hb).1.elim (fun h=>h.1) (fun h=>by omega),(HS.o b hb).2⟩) Hs.o,iT⟩
       case measure=>simp[intOf];omega
    ·have mA:decide (k≥(x:Int))=false:=decide_eq_false fk;have xQ:decide ((x:Int)≤k)=false:=decide_eq_false fk;have mi:=Z (show DY n k (x+1)=DY n k x from by rw[FY];unfold J2;rw[if_neg fk,List.append_nil]);go_wp2;go_roundw
     case rel=>exact⟨x+1,by omega,by go_num,by rw[mi.o];exact aC.o,aA⟩
     case measure=>simp[intOf];omega
   ·have e:x=2:=by omega
    subst e;go_wp2
    go_ret
    exact⟨_,rfl,by rw[←iW.o];exact aC.o,aA⟩
theorem N1{cols row:List Int}{k:Nat}{c x:Int}(hc:cols[k]? =some c)(hx:row[k]? =some x):(Be cols row)[k]? =some (c-x):=by
 unfold Be;rw[List.getElem?_zipWith,hc,hx]
theorem A09{cols row:List Int}(hl:row.length=cols.length){k:Nat}{c x:Int}(hc:cols[k]? =some c)(hx:row[k]? =some x)(h:c<x):Ej cols row=false:=by
 rw[Bool.eq_false_iff];intro hf;have hk:=(List.getElem?_eq_some_iff.1 hc).1;have:=(GW hl).1 hf k hk;rw[AL (N1 hc hx)] at this;omega
theorem WI{cols row:List Int}(hl:row.length=cols.length)(h:∀j,j<cols.length→0≤(Be cols row).getD j 0):Ej cols row=true:=(GW hl).2 h
def KR(cols row:List Int):List Int:=if Ej cols row then Be cols row else[]
theorem A1N(v v2:Value)(cols row:List Int)(w:World)(hv:Ab w v cols)(aW:Ab w v2 row)(hl:row.length=cols.length)(h5:cols.length≤5)(hc5:∀x∈cols,0≤x∧x≤5)(hr1:∀x∈row,0≤x∧x≤1):
  Calls Tryz.prog 255 #[v,v2] w fun e w'=>∃v',e=.returned (.tuple #[v',.bool (Ej cols row)])∧A4 3 A7 (Iv w.heap.size w'.heap.size) w' v' (KR cols row)∧Below w.heap.size w w':=by
 obtain⟨a,cap,rfl,-,cY,-,hc⟩:=hv;obtain⟨a2,cap2,rfl,-,hle2,-,cH⟩:=aW;have Hl:=Z hl;have Hc5:=Z hc5;have ku:=Z hr1;clear hl hc5 hr1;go_enter Tryz.func255,Tryz.ntmps255;go_wp2;go_loopw [6,12] (fun v i wr=>∃k:Nat,k≤cols.length∧i=.int .i64 k∧Hid (A4 3 A7 (Iv w.heap.size wr.heap.size) wr v ((Be cols row).take k))∧Hid (∀j,j<k→0≤(Be cols row).getD j 0)∧Below w.heap.size w wr) (fun _ i _=>cols.length-(intOf i).toNat)
 case atStart=>exact⟨0,Nat.zero_le _,rfl,by rw[List.take_zero];exact Bq _ _ _ A2,(by intro j hj;omega),Below.pureAlloc _ _⟩
 case round=>
  obtain⟨k,hk,rfl,aC,Hpos,aA⟩:=hrel;have aV:=aA.size;by_cases aH:k<cols.length
  ·obtain⟨b,off,rfl,hb,ct⟩:=hc (by omega);obtain⟨b2,off2,rfl,au,ij⟩:=cH (by rw[Hl.o];omega);obtain⟨c,fW⟩:∃c,cols[k]? =some c:=⟨_,List.getElem?_eq_getElem aH⟩;obtain⟨x,hx⟩:∃x,row[k]? =some x:=⟨_,List.getElem?_eq_getElem (by rw[Hl.o];exact aH)⟩;obtain⟨u,aQ,rfl,-⟩:=ct k c fW;obtain⟨u2,eP,rfl,-⟩:=ij k x hx;rw[←aA.cell (p:=⟨b,off+k,none⟩) hb] at aQ;rw[←aA.cell (p:=⟨b2,off2+k,none⟩) au] at eP;have aw:(k:Int)<(row.length:Int):=by have:=Hl.o;omega
   have hrl2:k<row.length:=by have:=Hl.o;omega
   obtain⟨cF,hc9⟩:=Hc5.o c (List.mem_of_getElem? fW);obtain⟨eu,hx9⟩:=ku.o x (List.mem_of_getElem? hx);by_cases az:c<x
   ·have hd:decide (c<x)=true:=decide_eq_true az;have Hf:=Z (A09 Hl.o fW hx az);have He:=Z (show KR cols row=[] from by unfold KR;rw[Hf.o];rfl);clear fW hx ct ij hc cH az;go_wp2
    go_ret2
    exact⟨_,by rw[Hf.o];rfl,by rw[He.o];exact A4.nil _ _ _ _,aA⟩
   ·have hd:decide (c<x)=false:=decide_eq_false az;have Hn:=Z (N1 fW hx);have ah:((Be cols row).take k).length<1099511627776:=by rw[List.length_take];omega
    have aJ:=Z (show(Be cols row).take (k+1)=(Be cols row).take k++[c-x] from by rw[List.take_add_one,Hn.o];rfl);have uC:=Z (show ∀j,j<k+1→0≤(Be cols row).getD j 0 from by
     intro j hj;by_cases e:j=k
     ·rw[e,AL Hn.o];omega
     ·exact Hpos.o j (by omega))
    have hI:BV (c-x):=BV.small (by omega) (by omega);clear fW hx ct ij hc cH az Hpos;go_wp2_with (first|(at_builtin;(refine Aa rfl _ _ 32 rfl A2 3 Tryz.underlying32 As rfl (by decide) w.heap.size wr.heap.size aV (Nat.le_refl _) rfl rfl (by exact aC.o) (by exact⟨rfl,hI⟩) ah ?_);intro v2 w2 hown2 aT _)|fail);have bW:=aA.trans aT;have ae:=Z hown2;clear hown2 aC;go_wp2;go_roundw
    case rel=>exact⟨k+1,by omega,by go_num,by rw[aJ.o];exact ae.o,uC,bW⟩
    case measure=>simp[intOf];omega
  ·have Hf:=Z (WI Hl.o fun j hj=>Hpos.o j (by omega));have He:=Z (show(Be cols row).take k=KR cols row from by unfold KR;rw[Hf.o,if_pos rfl,List.take_of_length_le (by rw[F6 Hl.o];omega)]);go_wp2
   go_ret2
   exact⟨_,by rw[Hf.o];rfl,by rw[←He.o];exact aC.o,aA⟩
theorem Sl.tail{α:Type}{R:CG α}{S:Bk}{w:World}{b off n c:Nat}{x:α}{xs:List α}(h:Sl R S w (.slice (some ⟨b,off,none⟩) n c) (x::xs)):Sl R S w (.slice (if c=1 then some ⟨b,off,none⟩ else some ⟨b,off+1,none⟩) xs.length (c-1)) xs:=by
 obtain⟨a',cap',he,h1,h2,h3,h4⟩:=h;simp only[Value.slice.injEq] at he;obtain⟨rfl,hn,rfl⟩:=he;rw[List.length_cons] at h1 h2;refine⟨_,_,rfl,by omega,by omega,(fun h=>by split at h<;>cases h),fun h0=>?_⟩;rw[if_neg (by omega)];obtain⟨b',off',he,hb,hc⟩:=h4 (by rw[List.length_cons];omega);simp only[Option.some.injEq,Addr.mk.injEq,and_true] at he;obtain⟨rfl,rfl⟩:=he;refine⟨b,off+1,rfl,hb,fun k y hk=>?_⟩;obtain⟨u,hu,hr⟩:=hc (k+1) y (by simpa using hk);exact⟨u,by rw[show off+1+k=off+(k+1) by omega];exact hu,hr⟩
def Og(rows cols row:List Int):List (List (List Int)):=if Ej cols row&&EB rows (Be cols row) then(BF rows (Be cols row)).map (row:: ·) else[]
def EQ(rows cols:List Int)(L:List (List Int))(k:Nat):List (List (List Int)):=(L.take k).flatMap (Og rows cols)
theorem X9(rows cols:List Int)(L:List (List Int)):EQ rows cols L 0=[]:=by simp[EQ]
theorem LH{rows cols:List Int}{L:List (List Int)}{k:Nat}{l:List Int}(h:L[k]? =some l):EQ rows cols L (k+1)=EQ rows cols L k++Og rows cols l:=by
 unfold EQ;rw[List.take_add_one,h,List.flatMap_append];simp
theorem Zx{r:Int}{rows cols:List Int}{L:List (List Int)}{k:Nat}(hL:L=Cc cols.length r)(hk:L.length≤k):EQ rows cols L k=BF (r::rows) cols:=by
 unfold EQ;rw[List.take_of_length_le hk,hL];rfl
theorem JM{α β:Type}(g:α→List β):∀(L:List α)(k:Nat),((L.take k).flatMap g).length≤(L.flatMap g).length
 |[],k=>by simp
 |a::L,0=>by simp
 |a::L,k+1=>by
  rw[List.take_succ_cons,List.flatMap_cons,List.flatMap_cons,List.length_append,List.length_append];have:=JM g L k;omega
theorem ZC{r:Int}{rows cols:List Int}{L:List (List Int)}{k:Nat}(hL:L=Cc cols.length r):(EQ rows cols L k).length≤(BF (r::rows) cols).length:=by
 have:=JM (Og rows cols) L k;rw[hL] at this;rw[hL];exact this
theorem A3H{rows cols row:List Int}(h:(Ej cols row&&EB rows (Be cols row))=false):Og rows cols row=[]:=by unfold Og;rw[h];rfl
theorem A2T{rows cols row:List Int}(h:(Ej cols row&&EB rows (Be cols row))=true)(done:List (List Int)):(Og rows cols row).map (done++ ·)=(BF rows (Be cols row)).map ((done++[row])++ ·):=by
 unfold Og;rw[h,if_pos rfl,List.map_map];exact List.map_congr_left fun m _=>by simp
theorem A26{rows cols row:List Int}(h:(Ej cols row&&EB rows (Be cols row))=true):(Og rows cols row).length=(BF rows (Be cols row)).length:=by
 unfold Og;rw[h,if_pos rfl,List.length_map]
theorem Qe{cols row:List Int}(hl:row.length=cols.length)(hc5:∀x∈cols,0≤x∧x≤5)(hr1:∀x∈row,0≤x∧x≤1)(hf:Ej cols row=true):∀x∈Be cols row,0≤x∧x≤5:=by
 intro x hx;obtain⟨j,hj,rfl⟩:=List.getElem_of_mem hx;have cK:j<cols.length:=by rw[←F6 hl];exact hj
 have h1:=(GW hl).1 hf j cK;have h2:=GX hl cK;rw[AL (List.getElem?_eq_getElem hj)] at h1 h2;have h3:=hc5 cols[j] (List.getElem_mem cK);have h4:=hr1 row[j] (List.getElem_mem (by omega));rw[AL (List.getElem?_eq_getElem cK),AL (List.getElem?_eq_getElem (by omega))] at h2;omega
theorem A4Q{xs:List Int}(h:∀x∈xs,0≤x∧x≤5)(hl:xs.length≤5):Ix xs:=⟨by omega,fun x hx=>by have:=h x hx;omega⟩
theorem A04:(Tryz.prog.info? 31).map (fun i=>(i.zero,i.size,i.bytes))=some (some (.slice none 0 0),1,24):=by kernel_rfl
def A6a(S:Bk)(w:World)(out:List (List (List Int)))(e:Ending)(w':World):Prop:=
 ∃v' S',e=.returned v'∧A4 31 (A4 32 (A4 3 A7)) S' w' v' out∧(∀b,S' b→(S b∨w.heap.size≤b)∧b<w'.heap.size)∧Ar S w w'
theorem Ob:∀(xs ys:List Int)(vo vd vr vc:Value)(done:List (List Int))(S:Bk)(out:List (List (List Int)))(w:World),xs.length≤5→1≤ys.length→ys.length≤5→(∀x∈xs,0≤x∧x≤5)→(∀y∈ys,0≤y∧y≤5)→
  (∀b,S b→b<w.heap.size)→A4 31 (A4 32 (A4 3 A7)) S w vo out→Sl (Sl A7) (fun b=>b<w.heap.size∧¬S b) w vd done→Sl A7 (fun b=>b<w.heap.size∧¬S b) w vr xs→Sl A7 (fun b=>b<w.heap.size∧¬S b) w vc ys→
  done.length+xs.length≤5→(∀row∈done,row.length≤5)→out.length+(BF xs ys).length≤1099511627775→
  Calls Tryz.prog 187 #[vo,vd,vr,vc] w (A6a S w (out++(BF xs ys).map (done++ ·))):=by
 intro xs;induction xs with
 |nil=>
  intro ys vo vd vr vc done S out w jb d5 lG gF fx hS ho hd hr hc tm hdr bq;have Hd:=Z hd;obtain⟨ad,cd,rfl,-⟩:=id hd;obtain⟨ar,cr,rfl,-⟩:=hr;obtain⟨ac,cc,rfl,-⟩:=hc;have HS:=Z hS;have ex:=Z ho;have df:=Z bq;have bJ:done.length≤1048576:=by omega
  have HR:=Z (show ∀p∈done,p.length≤1048576 from fun p hp=>by have:=hdr p hp;omega);have ng:=Z (show Ak w _ done from(BY (BY A2)).mono (fun b hb=>hb.1) hd);have ft:out.length<1099511627776:=Nat.lt_of_le_of_lt (Nat.le_trans (Nat.le_add_right _ _) df.o) (by decide);have iw:=Z (show(BF [] ys).map (done++ ·)=[done] from by simp[BF]);obtain⟨o1,o2,o3,rfl⟩:=ho.shape;clear hd hS ho bq hdr gF fx;go_enter Tryz.func187,Tryz.ntmps187;go_wp2_with (fail);refine(DG _ done _ (by exact ng.o) bJ HR.o).mono ?_;rintro e w4 ⟨v4,rfl,o4,b4⟩;obtain⟨r1,r2,r3,rfl⟩:=o4.shape;have ln:=b4.size;have eV:=Z b4;have fc:=Z o4;have f9:=Z (Below.pureAlloc w4 (.cells #[.slice r1 r2 r3] 31));have Hk:=Z (Aw.new w4 #[.slice r1 r2 r3] 31);have mj:=Z ((A3 (A3 (A3 A2))).same (A5 (eV.o.trans_pure f9.o (Nat.le_refl _)) fun b hb=>HS.o b hb) ex.o);have zB:=Z ((A3 (A3 A2)).same (A5 f9.o fun b hb=>hb.2) fc.o);have fK:(w4.alloc (.cells #[.slice r1 r2 r3] 31)).heap.size=w4.heap.size+1:=by simp
  have rD:=Z fK;clear o4 b4 fK;go_wp2_with (first|(at_builtin;refine F4 rfl _ _ 77 rfl (A3 (A3 A2)) 31 Tryz.underlying77 A04 rfl (by decide) S (Iv w.heap.size w4.heap.size) rfl rfl (by exact Hk.o.cell 0) (by exact mj.o) (by exact zB.o) (fun b h1 h2=>by have:=HS.o b h1;have:=h2.1;omega) (fun b h1=>by have:=HS.o b h1;have:=rD.o;omega) (fun b h1=>by have:=h1.2;have:=rD.o;omega) ft ?_;intro v6 w6 o6 h6;obtain⟨x1,x2,x3,rfl⟩:=o6.shape)|fail);have lP:=Z o6;have H6:=Z h6;clear o6 h6;go_wp2
  go_ret
  refine⟨_,_,rfl,by rw[iw.o];exact lP.o,fun b hb=>?_,?_⟩
  ·refine⟨?_,hb.2⟩;rcases hb.1 with h|h|h
   ·exact .inl h
   ·exact .inr h.1
   ·exact .inr (by have:=rD.o;omega)
  ·have h1:Ar S w (w4.alloc (.cells #[.slice r1 r2 r3] 31)):=Ar.of_pure (eV.o.trans_pure f9.o (Nat.le_refl _)) S;exact h1.trans' (H6.o.mono fun b hb _=>.inl (mj.o.ownBlock' b hb))
 |cons r xs ih=>
  intro ys vo vd vr vc done S out w jb d5 lG gF fx hS ho hd hr hc tm hdr bq;have IH:=Z ih;have Hd:=Z hd;have Hr:=Z hr;have Hc:=Z hc;obtain⟨ad,cd,rfl,-⟩:=id hd;obtain⟨br,offr,cr,rfl,hbr0,jI⟩:=hr.inv_ne (by simp);obtain⟨ac,cc,rfl,-⟩:=id hc;obtain⟨u,aQ,hu⟩:=Sl.at hr (k:=0) (x:=r) rfl;obtain⟨rfl,-⟩:=hu;rw[Nat.add_zero] at aQ;have eG:=gF r (by simp);have Hxb:=Z (fun x (hx:x∈xs)=>gF x (List.mem_cons_of_mem _ hx));have zC:=Z fx;have HS:=Z hS;have ex:=Z ho;have df:=Z bq;have sQ:=Z hdr;have hx4:xs.length≤4:=by simpa using jb
  have aw:(r::xs).length=xs.length+1:=rfl;rw[aw] at jI tm⊢;obtain⟨L,hL⟩:∃L,L=Cc ys.length r:=⟨_,rfl⟩;have HL:=Z hL;have mh:L.length≤32:=by rw[hL];exact Nc lG _
  have aO:(((xs.length+1:Nat):Int)==0)=false:=by rw[beq_eq_false_iff_ne];omega
  obtain⟨o1,o2,o3,rfl⟩:=ho.shape;obtain⟨nx,hnx⟩:∃nx:Nat,nx=xs.length+1:=⟨_,rfl⟩;rw[←hnx] at aO jI⊢;have ld:=Z hnx;have hnx0:0<nx:=by omega
  clear ih hd hr hc gF fx hS ho bq hdr hL aw jb hnx;go_enter Tryz.func187,Tryz.ntmps187;go_wp2_with (fail);refine(A2K ys.length r _ lG (by omega) (by omega)).mono ?_;rintro e wl ⟨vl,rfl,ol,bl⟩;rw[←HL.o] at ol;obtain⟨aL,cL,rfl,-⟩:=id ol.grid;have oM:=bl.size;have iX:=Z ol;have oK:=Z bl;have rC:L.length≤9223372036854775807:=by omega
  clear ol;go_wp2;go_loopw [0,28] (fun v i wr=>∃k:Nat,k≤L.length∧i=.int .i64 k∧∃S',Hid (A4 31 (A4 32 (A4 3 A7)) S' wr v (out++(EQ xs ys L k).map (done++ ·)))∧Hid (∀b,S' b→(S b∨wl.heap.size≤b)∧b<wr.heap.size)∧Hid (Ar S wl wr)) (fun _ i _=>L.length-(intOf i).toNat)
  case atStart=>exact⟨0,Nat.zero_le _,rfl,S,by rw[X9,List.map_nil,List.append_nil];exact(A3 (A3 (A3 A2))).same (A5 oK.o fun b hb=>HS.o b hb) ex.o,fun b hb=>⟨.inl hb,by have:=HS.o b hb;omega⟩,Ar.refl _ _⟩
  case round=>
   obtain⟨k,hk,rfl,S',Hs,HS',Ho⟩:=hrel;obtain⟨wo,rfl⟩:∃wo:World,wo=wr:=⟨_,rfl⟩;have xR:=Ho.o.size;obtain⟨s1,s2,s3,rfl⟩:=Hs.o.shape;by_cases hltk:k<L.length
   ·obtain⟨l,hl⟩:∃l,L[k]? =some l:=⟨_,List.getElem?_eq_getElem hltk⟩;obtain⟨gL,capL,heL,-⟩:=iX.o.inv_ne (by omega);simp only[Value.slice.injEq,true_and] at heL;obtain⟨rfl,ct⟩:=heL;subst ct;have gW:A4 32 (A4 3 A7) (Iv w.heap.size wl.heap.size) wo (.slice (some ⟨gL,0,none⟩) L.length cL) L:=(A3 (A3 A2)).same (fun b hb=>Ho.o.block b hb.2 fun h=>by have:=HS.o b h;have:=hb.1;omega) iX.o;obtain⟨-,-,-,-,T,uk,aM,fD,hT,-⟩:=gW.focus (A3 A2) hl;obtain⟨y1,y2,y3,rfl⟩:=fD.shape;obtain rfl:=fD.ints.len;have dG:=FQ.1 (by have h:=List.mem_of_getElem? hl;rw[HL.o] at h;exact h);have d8:=Z dG;have eJ:=Z fD;have HT:=Z hT;have Hl:=Z hl;have HK:Hid (∀W,Below wo.heap.size wo W→IR (fun b=>b<w.heap.size∧¬S b) w W):=fun W hW b hb=>(hW.block b (by have:=hb.1;omega)).trans ((Ho.o.block b (by have:=hb.1;omega) hb.2).trans (oK.o.block b hb.1));have HcO:=Z ((BY A2).same (HK.o wo (Below.refl _ _)) Hc.o);have pZ:=Z (show Ab wo (.slice ac ys.length cc) ys from(BY A2).mono (fun b hb=>by have:=hb.1;show b<wo.heap.size;omega) HcO.o);have zD:=fD.ints;clear gW fD hT hl dG;go_wp2_with (fail);refine(A1N _ _ ys l _ pZ.o zD d8.o.1 lG zC.o d8.o.2.1).mono ?_;rintro e w1 ⟨v1,rfl,o1',b1⟩;obtain⟨lv1,lv2,lv3,rfl⟩:=o1'.shape;obtain⟨ok,aD⟩:∃ok,ok=Ej ys l:=⟨_,rfl⟩;rw[←aD];have aS:=Z aD;have oN:=Z o1';have B1:=Z b1;have cX:=b1.size;have HlI1:=Z (zD.keep b1);have eo:=Z (F6 d8.o.1);have HrT:=Z (show Sl A7 (fun b=>b<w.heap.size∧¬S b) w (.slice (if cr=1 then some ⟨br,offr,none⟩ else some ⟨br,offr+1,none⟩) (nx-1) (cr-1)) xs from by
     have h:=Hr.o.tail;rw[show xs.length=nx-1 from by have:=ld.o;omega] at h;exact h)
    obtain⟨left,hleft⟩:∃left,left=Be ys l:=⟨_,rfl⟩;rw[←hleft] at eo;have fO:=Z hleft;clear aM zD b1 aD o1' hleft
    go_upto_region 7 with(fail)
    go_cut [59] (fun s59 wx=>s59=.bool (ok&&EB xs left)∧Hid (Below w1.heap.size w1 wx))
    case first=>
     cases ok
     ·go_wp2
      go_meet
      exact⟨rfl,Below.refl _ _⟩
     ·have iN:=oN.o;have hf:=aS.o.symm;unfold KR at iN;rw[hf,if_pos rfl,←fO.o] at iN;have fs:=iN.ints.len;subst fs;have xS:=Z iN.ints;have m6:=Z (show Ix left from by rw[fO.o];exact A4Q (Qe d8.o.1 zC.o d8.o.2.1 hf) (by rw[←fO.o,eo.o];exact lG));clear iN hf;by_cases eu:xs.length=0
      ·have dU:((nx:Int)==1)=true:=by rw[beq_iff_eq];have:=ld.o;omega
       have Hg:=Z (show EB xs left=decide (Ay left=0) from by unfold EB;rw[if_pos eu]);have uD:decide ((nx:Int)>1)=false:=by rw[decide_eq_false_iff_not];have:=ld.o;omega
       have zE:decide ((1:Int)<nx)=false:=by rw[decide_eq_false_iff_not];have:=ld.o;omega
       clear eu;obtain⟨z,hz⟩:∃z,z=Ay left:=⟨_,rfl⟩;rw[←hz] at Hg;have Hz:=Z hz;clear hz;by_cases ix:z=0
       ·have au:(z==0)=true:=by rw[beq_iff_eq];exact ix
        have zF:=Z (show EB xs left=true from by rw[Hg.o];simp[ix]);clear ix;go_wp2_with (first|(go_at_call 256;refine(Gy _ _ _ (by exact xS.o) m6.o).mono ?_;rintro e w' ⟨rfl,rfl⟩;rw[←Hz.o]))
        go_meet
        exact⟨by rw[zF.o];rfl,Below.refl _ _⟩
       ·have au:(z==0)=false:=by rw[beq_eq_false_iff_ne];exact ix
        have zF:=Z (show EB xs left=false from by rw[Hg.o];simp[ix]);clear ix;go_wp2_with (first|(go_at_call 256;refine(Gy _ _ _ (by exact xS.o) m6.o).mono ?_;rintro e w' ⟨rfl,rfl⟩;rw[←Hz.o]))
        go_meet
        exact⟨by rw[zF.o];rfl,Below.refl _ _⟩
      ·have dU:((nx:Int)==1)=false:=by rw[beq_eq_false_iff_ne];have:=ld.o;omega
       have Hg:=Z (show EB xs left=Bu xs left from by unfold EB;rw[if_neg eu]);have uD:decide ((nx:Int)>1)=true:=by rw[decide_eq_true_eq];have:=ld.o;omega
       have zE:decide ((1:Int)<nx)=true:=by rw[decide_eq_true_eq];have:=ld.o;omega
       have zG:¬cr=1:=by have:=ld.o;omega
       have hnx3:1<nx:=by have:=ld.o;omega
       clear eu;have oO:=Z (show Ab w1 (.slice (some ⟨br,offr+1,none⟩) (nx-1) (cr-1)) xs from by
        have h:=(BY A2).same (HK.o w1 B1.o) HrT.o;rw[if_neg zG] at h;exact(BY A2).mono (fun b hb=>by have:=hb.1;show b<w1.heap.size;omega) h)
       have HT2:=Z (show nx-1=xs.length from by have:=ld.o;omega);cases bR:Bu xs left
       ·have dk:=Z bR;clear bR;go_wp2_with (first|(go_at_call 185;refine(DA _ _ xs left _ (by exact oO.o) (by exact xS.o)).mono ?_;rintro e wx ⟨rfl,bx⟩;rw[dk.o]))
        go_meet
        exact⟨by rw[Hg.o,dk.o];rfl,bx⟩
       ·have dk:=Z bR;clear bR;go_wp2_with (first|(go_at_call 185;refine(DA _ _ xs left _ (by exact oO.o) (by exact xS.o)).mono ?_;rintro e wx ⟨rfl,bx⟩;rw[dk.o]))
        go_meet
        exact⟨by rw[Hg.o,dk.o];rfl,bx⟩
    case rest=>
     obtain⟨rfl,HbX⟩:=hcut;obtain⟨wx,rfl⟩:∃wx,wx=wc:=⟨_,rfl⟩;have kf:=HbX.o.size;have pf:=Z (B1.o.trans_pure HbX.o (Nat.le_refl _));have xA:=pf.o.size;obtain⟨zH,hcnd⟩:∃zH,zH=(ok&&EB xs left):=⟨_,rfl⟩;rw[←hcnd];cases zH
     ·have fh:=Z (show EQ xs ys L (k+1)=EQ xs ys L k from by
       rw[LH Hl.o,A3H,List.append_nil];rw[←fO.o,←aS.o];exact hcnd.symm)
      clear hcnd;go_wp2;go_roundw
      case rel=>exact⟨k+1,by omega,by go_num,S',by rw[fh.o];exact(A3 (A3 (A3 A2))).same (A5 pf.o fun b hb=>(HS'.o b hb).2) Hs.o,fun b hb=>⟨(HS'.o b hb).1,Nat.lt_of_lt_of_le (HS'.o b hb).2 xA⟩,Ho.o.trans' (Ar.of_pure pf.o _)⟩
      case measure=>simp[intOf];omega
     have aD:ok=true:=by cases ok;simp at hcnd;rfl
     have xT:EB xs left=true:=by rw[aD] at hcnd;exact hcnd.symm
     have iy:=Z (show(Ej ys l&&EB xs (Be ys l))=true from by rw[←fO.o,←aS.o,aD,xT];rfl);have iN:A4 3 A7 (Iv wo.heap.size w1.heap.size) w1 (.slice lv1 lv2 lv3) left:=by
      have h:=oN.o;unfold KR at h;rwa[show Ej ys l=true from by rw[←aS.o];exact aD,if_pos rfl,←fO.o] at h
     have fs:=iN.ints.len;subst fs;have Hlv:=Z iN;have gu:=Z (show ∀y∈left,0≤y∧y≤5 from by rw[fO.o];exact Qe d8.o.1 zC.o d8.o.2.1 (by rw[←aS.o];exact aD));have zI:1≤left.length:=by rw[eo.o];exact d5
     have zJ:left.length≤5:=by rw[eo.o];exact lG
     subst aD;clear hcnd xT iN;have bJ:done.length≤1048576:=by omega
     have HR:=Z (show ∀p∈done,p.length≤1048576 from fun p hp=>by have:=sQ.o p hp;omega);have uE:=Z (show ∀W,Below wx.heap.size wx W→Ak W _ done from fun W hW=>(BY (BY A2)).mono (fun b hb=>by have:=hb.1;have:=hW.size;show b<W.heap.size;omega) ((BY (BY A2)).same (HK.o W (pf.o.trans_pure hW (Nat.le_refl _))) Hd.o));have ww:=Z (show ∀W,Below wx.heap.size wx W→Sl A7 (fun b=>b<W.heap.size∧¬S' b) W (.slice (if cr=1 then some ⟨br,offr,none⟩ else some ⟨br,offr+1,none⟩) (nx-1) (cr-1)) xs from fun W hW=>(BY A2).mono (fun b hb=>⟨by have:=hb.1;have:=hW.size;omega,fun h=>(HS'.o b h).1.elim hb.2 (fun h2=>by have:=hb.1;omega)⟩) ((BY A2).same (HK.o W (pf.o.trans_pure hW (Nat.le_refl _))) HrT.o));have Hvc:=Z (show ∀W,Below wx.heap.size wx W→Sl A7 (fun b=>b<W.heap.size∧¬S' b) W (.slice lv1 left.length lv3) left from fun W hW=>(BY A2).mono (fun b hb=>⟨by have:=hb.2;have:=hW.size;omega,fun h=>by have:=(HS'.o b h).2;have:=hb.1;omega⟩) ((BY A2).same (A5 (HbX.o.trans_pure hW (Nat.le_refl _)) fun b hb=>hb.2) (Hlv.o.sl (fun _ _ _ _ h=>h) A2)));have tE:=Z (show ∀W,Below wx.heap.size wx W→A4 31 (A4 32 (A4 3 A7)) S' W (.slice s1 s2 s3) (out++(EQ xs ys L k).map (done++ ·)) from fun W hW=>(A3 (A3 (A3 A2))).same (A5 (pf.o.trans_pure hW (Nat.le_refl _)) fun b hb=>(HS'.o b hb).2) Hs.o);have HrX:=Z ((A3 A2).same (A5 pf.o fun b hb=>by have:=(HT.o b hb).1.2;omega) eJ.o);have zK:(done++[l]).length+xs.length≤5:=by rw[List.length_append,List.length_singleton];omega
     have zL:=Z (show ∀row∈done++[l],row.length≤5 from fun row aG=>by
      rcases List.mem_append.1 aG with h|h
      ·exact sQ.o row h
      ·rw[List.mem_singleton] at h;rw[h,d8.o.1];exact lG)
     have ml:=Z (show(out++(EQ xs ys L k).map (done++ ·)).length+(BF xs left).length≤1099511627775 from by
      have h1:=ZC (r:=r) (rows:=xs) (cols:=ys) (k:=k+1) HL.o;rw[LH Hl.o,List.length_append,A26 iy.o,←fO.o] at h1;have h2:=df.o;rw[List.length_append,List.length_map];omega)
     have uF:=Z (show ∀b,S' b→¬T b from fun b h1 h2=>by
      have h3:=(HT.o b h2).1;have h4:=h3.1;have h5:=h3.2;rcases(HS'.o b h1).1 with h|h
      ·have:=HS.o b h;omega
      ·omega)
     have gE:done.length<1099511627776:=by omega
     have cN:=Z (Below.pureAlloc wx (.cells #[.slice y1 l.length y3] 32));have iE:=Z (Aw.new wx #[.slice y1 l.length y3] 32);have kN:=Z (show out++(EQ xs ys L (k+1)).map (done++ ·)=(out++(EQ xs ys L k).map (done++ ·))++(BF xs left).map ((done++[l])++ ·) from by
      rw[LH Hl.o,List.map_append,A2T iy.o,←fO.o,List.append_assoc])
     have uD:(1:Int)≤nx:=by omega
     go_wp2
     go_region_law (first
      |(refine Iz (w:=w5.alloc (.cells #[.slice y1 l.length y3] 32)) (v:=.slice r1 r2 r3) (u:=.slice y1 l.length y3) (x:=l) (gb:=w5.heap.size) (c:=1) rfl (.tmp 62) (.tmp 64) 31 rfl (A3 A2) 32 Tryz.underlying31 JW rfl (by decide) (Iv wx.heap.size w5.heap.size) T (by simp[Act.eval]) (by simp[Act.eval]) (by exact(Aw.new w5 #[.slice y1 l.length y3] 32).cell 0) (by exact uG.o) (by exact uH.o) (fun b h1 h2=>by have:=h1.1;have:=(HT.o b h2).1.2;omega) (fun b h1=>Nat.lt_of_lt_of_le h1.2 mK.o.size) (fun b h1=>Nat.lt_of_lt_of_le (by have:=(HT.o b h1).1.2;omega:b<w5.heap.size) mK.o.size) gE ?_;intro v3 w3 o3 h3;obtain⟨z1,z2,z3,rfl⟩:=o3.shape;have mm:Below wx.heap.size w5 w3:=(mK.o.mono sW).trans (h3.below (Nat.le_trans sW mK.o.size) (fun b hb=>(iA.o.ownBlock' b hb).1));have B3:=Z (oP.o.trans mm);have kI:=B3.o.size;have HX:=Z (Nat.le_trans sW mK.o.size);have H3:=Z o3;have uI:=Z (show Sl (Sl A7) (fun b=>b<w3.heap.size∧¬S' b) w3 (.slice z1 z2 z3) (done++[l]) from(BY (BY A2)).mono (fun b hb=>⟨hb.2,fun h=>(hb.1.elim (fun h1=>by have:=h1.1;have:=(HS'.o b h).2;omega) (fun h1=>h1.elim (fun h1=>uF.o b h h1) (fun h1=>by have:=(HS'.o b h).2;have:=HX.o;omega)))⟩) (H3.o.sl (fun _ _ _ _ h=>h.sl (fun _ _ _ _ h=>h) A2) (BY A2)));clear o3 h3 mm)
      |(refine Iz (w:=w5) (v:=.slice r1 r2 r3) (u:=.slice y1 l.length y3) (x:=l) (gb:=wx.heap.size) (c:=1) rfl (.tmp 62) (.tmp 64) 31 rfl (A3 A2) 32 Tryz.underlying31 JW rfl (by decide) (Iv wx.heap.size w5.heap.size) T (by simp[Act.eval]) (by simp[Act.eval]) (by exact gv.o.cell 0) (by exact iA.o) (by exact xU.o) (fun b h1 h2=>by have:=h1.1;have:=(HT.o b h2).1.2;omega) (fun b h1=>h1.2) (fun b h1=>by have:=(HT.o b h1).1.2;omega) gE ?_;intro v3 w3 o3 h3;obtain⟨z1,z2,z3,rfl⟩:=o3.shape;have mm:Below wx.heap.size w5 w3:=h3.below sW (fun b hb=>(iA.o.ownBlock' b hb).1);have B3:=Z (oP.o.trans mm);have kI:=B3.o.size;have HX:=Z (sW);have H3:=Z o3;have uI:=Z (show Sl (Sl A7) (fun b=>b<w3.heap.size∧¬S' b) w3 (.slice z1 z2 z3) (done++[l]) from(BY (BY A2)).mono (fun b hb=>⟨hb.2,fun h=>(hb.1.elim (fun h1=>by have:=h1.1;have:=(HS'.o b h).2;omega) (fun h1=>h1.elim (fun h1=>uF.o b h h1) (fun h1=>by have:=(HS'.o b h).2;have:=HX.o;omega)))⟩) (H3.o.sl (fun _ _ _ _ h=>h.sl (fun _ _ _ _ h=>h) A2) (BY A2)));clear o3 h3 mm)
      |(go_simp;go_at_call 122;refine(DG _ done _ (uE.o _ (by exact⟨rfl,rfl,rfl,Nat.le_refl _,fun _ _=>rfl⟩)) bJ HR.o).mono ?_;rintro e w5 ⟨v5,rfl,o5,b1⟩;obtain⟨r1,r2,r3,rfl⟩:=o5.shape;have oP:=Z (show Below wx.heap.size wx w5 from⟨b1.os,b1.tape,b1.output,b1.size,b1.block⟩);have iA:=Z ((A3 (A3 A2)).mono (S':=Iv wx.heap.size w5.heap.size) (fun b hb=>⟨Nat.le_trans (Nat.le_refl _) hb.1,hb.2⟩) o5);have sW:=oP.o.size;have mK:=Z (Below.pureAlloc w5 (.cells #[.slice y1 l.length y3] 32));have xU:=Z ((A3 A2).same (A5 oP.o fun b hb=>by have:=(HT.o b hb).1.2;omega) HrX.o);have uG:=Z ((A3 (E:=32) (A3 (E:=3) A2)).same (A5 mK.o fun b hb=>hb.2) iA.o);have uH:=Z ((A3 A2).same (A5 mK.o fun b hb=>by have:=(HT.o b hb).1.2;omega) xU.o);clear o5 b1)
      |(go_simp;go_at_call 122;refine(DG _ done _ (uE.o _ (by exact⟨cN.o.os,cN.o.tape,cN.o.output,cN.o.size,cN.o.block⟩)) bJ HR.o).mono ?_;rintro e w5 ⟨v5,rfl,o5,b1⟩;obtain⟨r1,r2,r3,rfl⟩:=o5.shape;have gv:=Z (show Aw w5 wx.heap.size #[.slice y1 l.length y3] 32 from iE.o.keep ⟨b1.os,b1.tape,b1.output,b1.size,b1.block⟩);have oP:=Z (show Below wx.heap.size wx w5 from cN.o.trans (Below.mono ⟨b1.os,b1.tape,b1.output,b1.size,b1.block⟩ cN.o.size));have iA:=Z ((A3 (A3 A2)).mono (S':=Iv wx.heap.size w5.heap.size) (fun b hb=>⟨Nat.le_trans (cN.o.size) hb.1,hb.2⟩) o5);have sW:=oP.o.size;have mK:=Z (Below.pureAlloc w5 (.cells #[.slice y1 l.length y3] 32));have xU:=Z ((A3 A2).same (A5 oP.o fun b hb=>by have:=(HT.o b hb).1.2;omega) HrX.o);have uG:=Z ((A3 (E:=32) (A3 (E:=3) A2)).same (A5 mK.o fun b hb=>hb.2) iA.o);have uH:=Z ((A3 A2).same (A5 mK.o fun b hb=>by have:=(HT.o b hb).1.2;omega) xU.o);clear o5 b1)
      |(go_simp;go_at_call 187;refine(IH.o left _ _ _ _ (done++[l]) S' (out++(EQ xs ys L k).map (done++ ·)) _ (by omega) zI zJ Hxb.o gu.o (fun b hb=>Nat.lt_of_lt_of_le (HS'.o b hb).2 (Nat.le_trans xA kI)) (tE.o _ ⟨B3.o.os,B3.o.tape,B3.o.output,B3.o.size,B3.o.block⟩) uI.o (by exact ww.o _ ⟨B3.o.os,B3.o.tape,B3.o.output,B3.o.size,B3.o.block⟩) (by exact Hvc.o _ ⟨B3.o.os,B3.o.tape,B3.o.output,B3.o.size,B3.o.block⟩) zK zL.o ml.o).mono ?_;rintro e w4 ⟨v4,S4,rfl,o4,h4,O4⟩;obtain⟨t1,t2,t3,rfl⟩:=o4.shape;have fc:=Z o4;have H4:=Z h4;have pg:=Z (show Ar S' w3 w4 from⟨O4.os,O4.tape,O4.output,O4.size,O4.block⟩);clear o4 h4 O4))
     all_goals go_wp2
     all_goals go_roundw
     all_goals first
      |(simp[intOf];omega)
      |exact⟨k+1,by omega,by go_num,S4,by rw[kN.o];exact fc.o,fun b hb=>⟨(H4.o b hb).1.elim (fun h=>(HS'.o b h).1) (fun h=>.inr (by omega)),(H4.o b hb).2⟩,(Ho.o.trans' (Ar.of_pure (pf.o.trans_pure B3.o (Nat.le_refl _)) _)).trans' (pg.o.mono fun b hb _=>(HS'.o b hb).1)⟩
   ·have aZ:=Z (show EQ xs ys L k=BF (r::xs) ys from Zx HL.o (by omega));go_wp2
    go_ret
    exact⟨_,S',rfl,by rw[←aZ.o];exact Hs.o,fun b hb=>⟨(HS'.o b hb).1.imp id (fun h=>by omega),(HS'.o b hb).2⟩,(Ar.of_pure oK.o S).trans' (Ho.o.mono fun b hb _=>.inl hb)⟩
theorem Oh{xs ys:List Int}(h:AF xs ys=true):(Bi xs ys).length≤1073741824:=by
 obtain⟨-,h2,-,h4,-⟩:=BC h;refine Nat.le_trans (J3 xs ys) ?_;have h5:xs.length*(ys.length+1)≤5*6:=Nat.mul_le_mul h2 (by omega);exact Nat.le_trans (Nat.pow_le_pow_right (by decide) h5) (by decide)
theorem Cu{xs ys:List Int}(h:AF xs ys=true):AZ xs ys=Bi xs ys:=by unfold AZ;rw[h];rfl
theorem GF{xs ys:List Int}(h:AF xs ys=false):AZ xs ys=[]:=by unfold AZ;rw[h];rfl
theorem GU{xs ys:List Int}(h:Bu xs ys=false):AZ xs ys=[]:=by
 cases aD:AF xs ys
 ·exact GF aD
 ·rw[Cu aD];apply Classical.byContradiction;intro aO;rw[(Oo aD).2 aO] at h;cases h
theorem H0{xs ys:List Int}(h:Bu xs ys=true):AZ xs ys≠[]:=by
 have aD:=Fy h;rw[Cu aD];exact(Oo aD).1 h
theorem DQ(xs ys:List Int):(AZ xs ys).length≤1073741824:=by
 cases aD:AF xs ys
 ·rw[GF aD];simp
 ·rw[Cu aD];exact Oh aD
theorem Lx{xs ys:List Int}(h:AF xs ys=true):(∀x∈xs,0≤x∧x≤5)∧∀y∈ys,0≤y∧y≤5:=by
 obtain⟨a,b⟩:=GG h;obtain⟨-,h2,-,h4,-⟩:=BC h;constructor
 ·intro x hx;have:=List.all_eq_true.1 a x hx;rw[AT] at this;omega
 ·intro x hx;have:=List.all_eq_true.1 b x hx;rw[AT] at this;omega
theorem J5(v v2:Value)(xs ys:List Int)(w:World)(hv:Ab w v xs)(aW:Ab w v2 ys):Calls Tryz.prog 128 #[v,v2] w fun e w'=>∃vo,e=.returned (.tuple #[vo,.bool (AF xs ys)])∧A4 31 (A4 32 (A4 3 A7)) (Iv w.heap.size w'.heap.size) w' vo (AZ xs ys)∧Below w.heap.size w w':=by
 have Hv:=Z hv;have aj:=Z aW;obtain⟨a,cap,rfl,-⟩:=hv;obtain⟨a2,cap2,rfl,-⟩:=aW;cases aD:AF xs ys
 ·have Hr:=Z (GF aD);have aS:=Z aD;clear aD;go_enter Tryz.func128,Tryz.ntmps128;go_wp2_with (fail);refine(EL _ _ _ _ _ Hv.o aj.o).mono ?_;rintro e w' ⟨rfl,rfl⟩;rw[aS.o];go_wp2
  go_ret2
  exact⟨_,rfl,by rw[Hr.o];exact A4.nil _ _ _ _,Below.refl _ _⟩
 cases bR:Bu xs ys
 ·have Hr:=Z (GU bR);have aS:=Z aD;have dk:=Z bR;clear aD bR;go_enter Tryz.func128,Tryz.ntmps128;go_wp2_with (fail);refine(EL _ _ _ _ _ Hv.o aj.o).mono ?_;rintro e w' ⟨rfl,rfl⟩;rw[aS.o];go_wp2_with (fail);refine(DA _ _ _ _ _ Hv.o aj.o).mono ?_;rintro e w2 ⟨rfl,b2⟩;rw[dk.o];go_wp2
  go_ret2
  exact⟨_,rfl,by rw[Hr.o];exact A4.nil _ _ _ _,b2⟩
 ·obtain⟨-,h2,h3,h4,-⟩:=BC aD;obtain⟨h5,h6⟩:=Lx aD;have Hr:=Z (show AZ xs ys=BF xs ys from by rw[Cu aD,EH aD]);have aP:=Oh aD;rw[←EH aD] at aP;have fa:=Z aP;have aS:=Z aD;have dk:=Z bR;clear aD bR aP;go_enter Tryz.func128,Tryz.ntmps128;go_wp2_with (fail);refine(EL _ _ _ _ _ Hv.o aj.o).mono ?_;rintro e w' ⟨rfl,rfl⟩;rw[aS.o];go_wp2_with (fail);refine(DA _ _ _ _ _ Hv.o aj.o).mono ?_;rintro e w2 ⟨rfl,b2⟩;rw[dk.o];have bU:=Z (Ob xs ys (.slice none 0 0) (.slice none 0 0) (.slice a xs.length cap) (.slice a2 ys.length cap2) [] (fun _=>False) [] w2 h2 h3 h4 h5 h6 (fun _ h=>h.elim) (A4.nil _ _ _ _)
   ⟨none,0,rfl,by simp,by simp,fun _=>rfl,fun h=>by simp at h⟩ ((BY A2).mono (fun b hb=>⟨hb,fun h=>h⟩) (Hv.o.keep b2)) ((BY A2).mono (fun b hb=>⟨hb,fun h=>h⟩) (aj.o.keep b2)) (by simpa using h2) (fun row hr=>by cases hr) (by have:=fa.o;simp;omega))
  clear h5 h6;go_wp2_with (fail);refine(bU.o).mono ?_;rintro e w3 ⟨v3,S3,rfl,o3,ki,O3⟩;obtain⟨t1,t2,t3,rfl⟩:=o3.shape;have cn:=Z o3;have kv:=Z ki;have uJ:=Z O3;have hs2:=b2.size;clear o3 ki O3 bU;go_wp2
  go_ret2
  refine⟨_,rfl,?_,b2.trans_pure (uJ.o.below (Nat.le_refl _) fun _ h=>h.elim) (Nat.le_refl _)⟩;rw[Hr.o];have h:=cn.o;rw[List.nil_append,show(BF xs ys).map ([]++ ·)=BF xs ys from by simp] at h;exact(A3 (A3 (A3 A2))).mono (fun b hb=>⟨by have:=(kv.o b hb).1;simp at this;omega,(kv.o b hb).2⟩) h
def owr:List Int→Nat→List Int→List Int
 |xs,_,[]=>xs
 |xs,o,z::zs=>owr (xs.set o z) (o+1) zs
theorem A16:∀(zs xs:List Int)(o i:Nat),o+zs.length≤xs.length→(owr xs o zs)[i]? =if o≤i∧i<o+zs.length then zs[i-o]? else xs[i]?
 |[],xs,o,i,_=>by rw[owr,if_neg (by rw[List.length_nil];omega)]
 |z::zs,xs,o,i,h=>by
  rw[List.length_cons] at h;rw[owr,A16 zs (xs.set o z) (o+1) i (by rw[List.length_set];omega),List.length_cons];by_cases h1:o+1≤i∧i<o+1+zs.length
  ·rw[if_pos h1,if_pos (by omega),show i-o=(i-(o+1))+1 by omega];rfl
  ·rw[if_neg h1];by_cases h2:i=o
   ·subst h2;rw[if_pos (by omega),Nat.sub_self,List.getElem?_set_self (by omega)];rfl
   ·rw[if_neg (by omega),List.getElem?_set_ne (by omega)]
theorem A1d{xs zs:List Int}(h:zs.length=xs.length):owr xs 0 zs=zs:=by
 apply List.ext_getElem?;intro i;rw[A16 zs xs 0 i (by omega)];by_cases h1:i<zs.length
 ·rw[if_pos (by omega),Nat.sub_zero]
 ·rw[if_neg (by omega),List.getElem?_eq_none (by omega),List.getElem?_eq_none (by omega)]
theorem A4.setInts{E:TypeId}{S:Bk}{g n cap:Nat}:∀(zs xs:List Int)(o:Nat)(w:World),A4 E A7 S w (.slice (some ⟨g,0,none⟩) n cap) xs→o+zs.length≤xs.length→(∀z∈zs,BV z)→A4 E A7 S (w.setCells g o (zs.map (Value.int .i64))) (.slice (some ⟨g,0,none⟩) n cap) (owr xs o zs)
 |[],xs,o,w,h,_,_=>h
 |z::zs,xs,o,w,h,hl,hI=>by
  rw[List.length_cons] at hl;exact A4.setInts zs (xs.set o z) (o+1) (w.setCell ⟨g,o,none⟩ (.int .i64 z)) (h.setInt (by omega) (hI z (by simp))) (by rw[List.length_set];omega) (fun y hy=>hI y (List.mem_cons_of_mem _ hy))
theorem Kp{S:Bk}{g:Nat}{a:World}(hg:S g):∀(zs:List Value)(o:Nat)(w:World),Ar S a w→Ar S a (w.setCells g o zs)
 |[],_,_,h=>h
 |z::zs,o,w,h=>Kp hg zs (o+1) (w.setCell ⟨g,o,none⟩ z) (h.setCell (.inl hg) z)
theorem JF(g:Nat):∀(zs:List Value)(o:Nat)(w:World),(w.setCells g o zs).heap.size=w.heap.size
 |[],_,_=>rfl
 |z::zs,o,w=>(JF g zs (o+1) (w.setCell ⟨g,o,none⟩ z)).trans (A9 _ _ _)
def K7(xs:List Int):List Int:=xs.mergeSort (fun x y=>decide (x≤y))
theorem Na(xs:List Int):(K7 xs).Perm xs:=List.mergeSort_perm _ _
theorem Pv(xs:List Int):(K7 xs).length=xs.length:=(Na xs).length_eq
theorem Wx(xs:List Int):(K7 xs).Pairwise (fun a b=>a≤b):=by
 have h:=List.pairwise_mergeSort (le:=fun x y:Int=>decide (x≤y)) (fun a b c h1 h2=>by simp at*;omega) (fun a b=>by simp;omega) xs;exact h.imp fun h=>by simpa using h
open Go.Shelf Go.Lib Go.Sort in
theorem A5N(g cap:Nat)(xs:List Int)(S:Bk)(w:World)(aB:A4 3 A7 S w (.slice (some ⟨g,0,none⟩) xs.length cap) xs)(hI:∀x∈xs,BV x)(sP:xs.length<4611686018427387904):
  Calls Tryz.prog 114 #[.slice (some ⟨g,0,none⟩) xs.length cap] w fun e w'=>e=.returned (.tuple #[])∧A4 3 A7 (fun b=>S b∧b<w.heap.size) w' (.slice (some ⟨g,0,none⟩) xs.length cap) (K7 xs)∧Ar (fun b=>b=g) w w':=by
 have hg:g<w.heap.size:=by
  rcases aB with⟨h,-⟩|⟨g',arr,he,-,hh,-⟩
  ·cases h
  ·simp only[Value.slice.injEq,Option.some.injEq,Addr.mk.injEq,and_true] at he;obtain⟨rfl,-⟩:=he;exact lt_of_block hh
 have hH:Holds (Value.int .i64) w g 0 xs.toArray:=by
  intro j hj;have cK:j<xs.length:=by simpa using hj
  obtain⟨h1,h2,-⟩:=aB.ints_cell (List.getElem?_eq_getElem cK);rw[Nat.zero_add];refine⟨?_,h2⟩;rw[h1,getElem!_pos _ j hj];simp
 have hS:=Tryz.slices_Sort_int g 0 cap xs w hH hg sP;refine hS.mono ?_;rintro e w' ⟨rfl,q,os,rfl⟩;refine⟨rfl,?_⟩;have e2:xs.mergeSort (fun x y=>decide (x≤y))=K7 xs:=rfl;have h1:=A4.setInts (K7 xs) xs 0 (w.drewN q) (show A4 3 A7 S (w.drewN q) _ xs from aB) (by rw[Pv];omega) (fun z hz=>hI z ((Na xs).mem_iff.1 hz));rw[A1d (by rw[Pv])] at h1;have e3:=Lib.sorted_world (Value.int .i64) w g 0 q xs.toArray (K7 xs) os hH (by rw[Pv];simp);rw[e2,e3];have hz:((w.drewN q).setCells g 0 ((K7 xs).map (Value.int .i64))).heap.size=w.heap.size:=JF _ _ _ _;have h2:=(A3 A2).inH h1;rw[hz] at h2;refine⟨(A3 A2).same (fun b hb=>heap_grow_old _ _ (by rw[hz];exact hb.2)) h2,?_⟩;have h3:=Kp (S:=fun b=>b=g) (a:=w) rfl ((K7 xs).map (Value.int .i64)) 0 (w.drewN q) ((Ar.refl _ w).drewN q);exact⟨h3.os,h3.tape,h3.output,by rw[size_grow,hz];omega,fun b hb hn=>(heap_grow_old _ _ (by rw[hz];exact hb)).trans (h3.block b hb hn)⟩
open Go.Shelf Go.Lib Go.Sort in
def cfD(x y:Int):Int:=Lib.compareInt y x
open Go.Shelf Go.Lib Go.Sort in
theorem ltD(x y:Int):ltOf cfD x y=decide (y<x):=by
 unfold ltOf cfD Lib.compareInt;by_cases h1:y<x
 ·simp[h1]
 ·by_cases h2:x<y<;>simp[h1,h2]
open Go.Shelf Go.Lib Go.Sort in
theorem A6H:SWO (ltOf cfD) where
 irrefl x:=by rw[ltD];simp
 trans x y z h1 h2:=by rw[ltD] at*;simp at*;omega
 ntrans x y z h1 h2:=by rw[ltD] at*;simp at*;omega
open Go.Shelf Go.Lib Go.Sort in
theorem A6F(x y:Int)(h1:ltOf cfD x y=false)(h2:ltOf cfD y x=false):x=y:=by rw[ltD] at*;simp at*;omega
open Go.Shelf Go.Lib Go.Sort in
theorem geD:(fun x y:Int=>!ltOf cfD y x)=fun x y=>decide (y≤x):=by
 funext x y
 rw[ltD];by_cases h:y≤x
 ·have h':¬x<y:=by omega
  simp[h,h']
 ·have h':x<y:=by omega
  simp[h,h']
open Go.Shelf Go.Lib Go.Sort in
theorem A3T(x y:Int)(W:World):Calls Tryz.prog 225 #[.int .i64 x,.int .i64 y] W fun e w'=>e=.returned (.int .i64 (cfD x y))∧∃q,w'=W.drewN q:=by
 have rE:=AnyG.cmp_Compare_int Tryz.cmpL y x W;change Calls Tryz.prog 226 _ _ _ at rE;unfold cfD;generalize Lib.compareInt y x=r at rE⊢;go_enter Tryz.func225,Tryz.ntmps225;go_wp2_with (go_at_call 226;refine rE.mono ?_;rintro e w' ⟨rfl,rfl⟩)
 go_ret
 exact⟨rfl,0,rfl⟩
open Go.Shelf Go.Lib Go.Sort in
theorem A2J(blk off size:Nat)(w:World):CmpReads Tryz.prog 225 #[] (Value.int .i64) cfD blk off size w:=fun _ _ _ _ x y=>A3T x y _
theorem YC(xs:List Int):xs.mergeSort (fun x y=>decide (y≤x))=sortD xs:=by
 refine A47 (List.mergeSort_perm _ _) ?_;have h:=List.pairwise_mergeSort (le:=fun x y:Int=>decide (y≤x)) (fun a b c h1 h2=>by simp at*;omega) (fun a b=>by simp;omega) xs;exact h.imp fun h=>by simpa using h
open Go.Shelf Go.Lib Go.Sort in
theorem A0p(g cap:Nat)(xs:List Int)(S:Bk)(w:World)(aB:A4 3 A7 S w (.slice (some ⟨g,0,none⟩) xs.length cap) xs)(hI:∀x∈xs,BV x)(sP:xs.length<4611686018427387904):
  Calls Tryz.prog 224 #[.slice (some ⟨g,0,none⟩) xs.length cap,.func (.func 225) #[] #[]] w fun e w'=>e=.returned (.tuple #[])∧A4 3 A7 (fun b=>S b∧b<w.heap.size) w' (.slice (some ⟨g,0,none⟩) xs.length cap) (sortD xs)∧Ar (fun b=>b=g) w w':=by
 have eg:∀args w,(callFunc 225 args).run Tryz.prog w=.ok (.enter 225 args) w:=enters_of Tryz.func225 (by kernel_rfl) rfl;have hg:g<w.heap.size:=by
  rcases aB with⟨h,-⟩|⟨g',arr,he,-,hh,-⟩
  ·cases h
  ·simp only[Value.slice.injEq,Option.some.injEq,Addr.mk.injEq,and_true] at he;obtain⟨rfl,-⟩:=he;exact lt_of_block hh
 have hH:Holds (Value.int .i64) w g 0 xs.toArray:=by
  intro j hj;have cK:j<xs.length:=by simpa using hj
  obtain⟨h1,h2,-⟩:=aB.ints_cell (List.getElem?_eq_getElem cK);rw[Nat.zero_add];refine⟨?_,h2⟩;rw[h1,getElem!_pos _ j hj];simp
 have hS:=Any.slices_SortFunc_total Tryz.sortL (Value.int .i64) (fun _=>rfl) cfD A6H 225 #[] g 0 cap xs.toArray w eg (A2J g 0 xs.toArray.size w).lays hH hg (by simpa using sP) A6F;rw[geD] at hS;change Calls Tryz.prog 224 _ _ _ at hS;have e1:xs.toArray.size=xs.length:=by simp
 rw[e1] at hS;refine hS.mono ?_;rintro e w' ⟨rfl,q,os,rfl⟩;refine⟨rfl,?_⟩;have e2:xs.toArray.toList.mergeSort (fun x y=>decide (y≤x))=sortD xs:=YC xs;have h1:=A4.setInts (sortD xs) xs 0 (w.drewN q) (show A4 3 A7 S (w.drewN q) _ xs from aB) (by rw[CI];omega) (fun z hz=>hI z ((Gt xs).mem_iff.1 hz));rw[A1d (by rw[CI])] at h1;have e3:sortWorld (Value.int .i64) w g 0 q (sortD xs).toArray os=grow ((w.drewN q).setCells g 0 ((sortD xs).map (Value.int .i64))) os:=Lib.sorted_world _ w g 0 q _ _ os hH (by rw[CI];simp);rw[e2,e3];have hz:((w.drewN q).setCells g 0 ((sortD xs).map (Value.int .i64))).heap.size=w.heap.size:=JF _ _ _ _;have h2:=(A3 A2).inH h1;rw[hz] at h2;refine⟨(A3 A2).same (fun b hb=>heap_grow_old _ _ (by rw[hz];exact hb.2)) h2,?_⟩;have h3:=Kp (S:=fun b=>b=g) (a:=w) rfl ((sortD xs).map (Value.int .i64)) 0 (w.drewN q) ((Ar.refl _ w).drewN q);exact⟨h3.os,h3.tape,h3.output,by rw[size_grow,hz];omega,fun b hb hn=>(heap_grow_old _ _ (by rw[hz];exact hb)).trans (h3.block b hb hn)⟩
theorem Vx(v:Value)(xs:List Int)(w:World)(hv:Ab w v xs)(h1:1≤xs.length)(hl:xs.length≤1048576):Calls Tryz.prog 159 #[v] w (M7 3 A7 w (sortD xs)):=by
 have Hv:=Z hv;have hI:∀x∈xs,BV x:=by
  intro x hx;obtain⟨k,hk⟩:=List.getElem?_of_mem hx;obtain⟨a,cap,rfl,-,-,-,hc⟩:=hv;obtain⟨b,off,-,-,ct⟩:=hc h1;obtain⟨u,-,-,h⟩:=ct k x hk;exact h
 have HI:=Z hI;obtain⟨a,cap,rfl,-⟩:=hv;clear hI;go_enter Tryz.func159,Tryz.ntmps159;go_wp2_with (fail);refine(GB _ xs _ Hv.o hl).mono ?_;rintro e w1 ⟨v1,rfl,o1,b1⟩;obtain⟨g,c1,rfl,-,-,-,-⟩:=o1.inv_ne h1;have fe:=Z o1;clear o1;go_wp2_with (fail);refine(A0p g c1 xs _ w1 fe.o HI.o (by omega)).mono ?_;rintro e w2 ⟨rfl,o2,h2⟩;have cu:=Z o2;have hs2:=h2.size;have au:Below w.heap.size w w2:=b1.trans (h2.below b1.size (fun b hb=>by have hb:b=g:=hb;rw[hb];exact(fe.o.ownBlock' g rfl).1));clear o2;go_wp2
 go_ret
 exact⟨_,rfl,(A3 A2).mono (fun b hb=>⟨hb.1.1,Nat.lt_of_lt_of_le hb.2 hs2⟩) cu.o,au⟩
theorem IF(v v2:Value)(xs ys:List Int)(w:World)(hv:Ab w v xs)(aW:Ab w v2 ys):Calls Tryz.prog 91 #[v,v2] w fun e w'=>e=.returned (.int .i64 (Fb xs ys))∧Below w.heap.size w w':=by
 have Hv:=Z hv;have aj:=Z aW;obtain⟨a,cap,rfl,-⟩:=hv;obtain⟨a2,cap2,rfl,-⟩:=aW;cases aD:AF xs ys
 ·have aS:=Z aD;have Hr:=Z (show Fb xs ys=0 from by unfold Fb;rw[aD];rfl);clear aD;go_enter Tryz.func91,Tryz.ntmps91;go_wp2_with (fail);refine(Fj _ _ _ _ _ Hv.o aj.o).mono ?_;rintro e w' ⟨rfl,rfl⟩;rw[aS.o];go_wp2
  go_ret
  exact⟨CM (by rw[Hr.o];rfl),Below.refl _ _⟩
 have Hr:=Z (show Fb xs ys=Fw xs ys from by unfold Fb;rw[aD];rfl);obtain⟨x1,x5,y1,y5,-,-,-⟩:=BC aD;obtain⟨ax,ay⟩:=GG aD;have sV:=Z ax;have xP:=Z (show ∀k,Ix ((sortD ys).take k) from fun k=>Qb ay (by omega) y5);have pd:=Z (show ∀k,Ix ((EC xs ys.length).take k) from fun k=>S1 x5 y5);have Hm:=Z (show ∀k,k≤ys.length→Ay ((EC xs ys.length).take k)=LI xs k from fun k hk=>XB aD hk);have aS:=Z aD;clear aD ax ay;go_enter Tryz.func91,Tryz.ntmps91;go_wp2_with (fail);refine(Fj _ _ _ _ _ Hv.o aj.o).mono ?_;rintro e w' ⟨rfl,rfl⟩;rw[aS.o];go_wp2_with (fail);refine(TN _ xs ys.length _ Hv.o y1 y5 x5 sV.o).mono ?_;rintro e w1 ⟨v1,rfl,o1,b1⟩;obtain⟨g,c1,rfl,-,hc1,-,-⟩:=o1.inv_ne (by rw[DM];omega);rw[DM] at hc1⊢;have iN:=o1.ints;rw[DM] at iN;have fe:=Z iN;clear o1 iN;go_wp2_with (fail);refine(Vx _ ys _ (aj.o.keep b1) y1 (by omega)).mono ?_;rintro e w2 ⟨v2,rfl,o2,b2⟩;obtain⟨g2,c2,rfl,-,cH,-,-⟩:=o2.inv_ne (by rw[CI];omega);rw[CI] at cH⊢;have fR:=o2.ints;rw[CI] at fR;have cu:=Z fR;have oN:=Z (Ab.keep fe.o b2);have eU:=b1.trans_pure b2 (Nat.le_refl _);clear o2 fR;go_wp2;go_loopw [7] (fun i wr=>∃k:Nat,1≤k∧k≤ys.length+1∧i=.int .i64 k∧Hid (∀i,1≤i→i<k→¬CP xs ys i)∧Below w2.heap.size w2 wr) (fun i _=>(ys.length+1-intOf i).toNat)
 case atStart=>exact⟨1,Nat.le_refl _,by omega,rfl,(by intro i h1 h2;omega),Below.refl _ _⟩
 case round=>
  obtain⟨k,fU,hk,rfl,fh,aA⟩:=hrel;by_cases cY:k≤ys.length
  ·have hd:decide ((k:Int)≤(ys.length:Int))=true:=by rw[decide_eq_true_eq];omega
   have hkc1:k≤c1:=by omega
   have yz:k≤c2:=by omega
   obtain⟨z1,bZ⟩:∃z,z=Ay ((sortD ys).take k):=⟨_,rfl⟩;obtain⟨z2,bT⟩:∃z,z=Ay ((EC xs ys.length).take k):=⟨_,rfl⟩;have fT:=Z (show ∀m,Calls Tryz.prog 87 #[.slice (some ⟨g2,0,none⟩) k c2] (wr.drewN m) fun e w''=>e=.returned (.int .i64 z1)∧w''=wr.drewN m from fun m=>(G7 _ _ _ (Ab.pre (Ab.keep cu.o (below_drewN aA m)) (by rw[CI];exact cY)) (xP.o k)).mono fun e w'' ⟨he,hw⟩=>⟨by rw[he,bZ],hw.symm⟩);have iU:=Z (show ∀m,Calls Tryz.prog 87 #[.slice (some ⟨g,0,none⟩) k c1] (wr.drewN m) fun e w''=>e=.returned (.int .i64 z2)∧w''=wr.drewN m from fun m=>(G7 _ _ _ (Ab.pre (Ab.keep oN.o (below_drewN aA m)) (by rw[DM];exact cY)) (pd.o k)).mono fun e w'' ⟨he,hw⟩=>⟨by rw[he,bT],hw.symm⟩);have zM:=Hm.o k cY;rw[←bT] at zM;by_cases aH:z2<z1
   ·have mA:decide (z1>z2)=true:=decide_eq_true aH;have xQ:decide (z2<z1)=true:=decide_eq_true aH;have Hw:=Z (OH fU cY (by unfold CP;omega) fh.o);clear bZ bT zM aH;go_wp2;go_quiet ((first|(go_at_call 87;with_reducible exact Calls.quiet_of_same (fT.o _))|(go_at_call 87;with_reducible exact Calls.quiet_of_same (iU.o _))));go_wp2
    go_ret
    exact⟨CM (by rw[Hr.o,Hw.o]),below_drewN (eU.trans_pure aA (Nat.le_refl _)) _⟩
   ·have mA:decide (z1>z2)=false:=decide_eq_false aH;have xQ:decide (z2<z1)=false:=decide_eq_false aH;have kM:=Z (show ∀i,1≤i→i<k+1→¬CP xs ys i from by
     intro i h1 h2;by_cases e:i=k
     ·rw[e];unfold CP;omega
     ·exact fh.o i h1 (by omega))
    clear bZ bT zM aH;go_wp2;go_quiet ((first|(go_at_call 87;with_reducible exact Calls.quiet_of_same (fT.o _))|(go_at_call 87;with_reducible exact Calls.quiet_of_same (iU.o _))));go_wp2;go_roundw
    case rel=>exact⟨k+1,by omega,by omega,by go_num,kM,below_drewN aA _⟩
    case measure=>simp[intOf];omega
  ·have hd:decide ((k:Int)≤(ys.length:Int))=false:=by rw[decide_eq_false_iff_not];omega
   have Hw:=Z (show Fw xs ys=0 from Lt.2 fun i h1 h2=>fh.o i h1 (by omega));go_wp2
   go_ret
   exact⟨CM (by rw[Hr.o,Hw.o];rfl),eU.trans_pure aA (Nat.le_refl _)⟩
theorem NY(v v2:Value)(xs ys:List Int)(w:World)(hv:Ab w v xs)(aW:Ab w v2 ys):Calls Tryz.prog 90 #[v,v2] w fun e w'=>e=.returned (.bool (Bu xs ys))∧Below w.heap.size w w':=by
 have Hv:=Z hv;have aj:=Z aW;obtain⟨a,cap,rfl,-⟩:=hv;obtain⟨a2,cap2,rfl,-⟩:=aW;cases aD:AF xs ys
 ·have Hr:=Z (show Bu xs ys=false from by unfold Bu;rw[aD];rfl);have aS:=Z aD;clear aD;go_enter Tryz.func90,Tryz.ntmps90;go_wp2_with (first|(go_at_call 89;refine(Fj _ _ _ _ _ Hv.o aj.o).mono ?_;rintro e w' ⟨rfl,rfl⟩;rw[aS.o]))
  go_ret
  exact⟨AI (by rw[Hr.o]),Below.refl _ _⟩
 ·have Hr:=Z (show Bu xs ys=decide (Fb xs ys=0) from by unfold Bu;rw[aD];rfl);have lr:=LD xs ys;obtain⟨x1,x5,y1,y5,-,-,-⟩:=BC aD;obtain⟨z,hz⟩:∃z,z=Fb xs ys:=⟨_,rfl⟩;rw[←hz] at lr;have Hz:=Z hz;have aS:=Z aD;clear aD hz;by_cases h0:z=0
  ·have hb:((z:Int)==0)=true:=by rw[beq_iff_eq];omega
   go_enter Tryz.func90,Tryz.ntmps90;go_wp2_with (first|(go_at_call 89;refine(Fj _ _ _ _ _ Hv.o aj.o).mono ?_;rintro e w' ⟨rfl,rfl⟩;rw[aS.o])|(go_at_call 91;refine(IF _ _ _ _ _ Hv.o aj.o).mono ?_;rintro e w2 ⟨rfl,b2⟩;rw[←Hz.o]))
   go_ret
   exact⟨AI (by rw[Hr.o,←Hz.o,h0];rfl),b2⟩
  ·have hb:((z:Int)==0)=false:=by rw[beq_eq_false_iff_ne];omega
   go_enter Tryz.func90,Tryz.ntmps90;go_wp2_with (first|(go_at_call 89;refine(Fj _ _ _ _ _ Hv.o aj.o).mono ?_;rintro e w' ⟨rfl,rfl⟩;rw[aS.o])|(go_at_call 91;refine(IF _ _ _ _ _ Hv.o aj.o).mono ?_;rintro e w2 ⟨rfl,b2⟩;rw[←Hz.o]))
   go_ret
   exact⟨AI (by rw[Hr.o,←Hz.o,decide_eq_false h0]),b2⟩

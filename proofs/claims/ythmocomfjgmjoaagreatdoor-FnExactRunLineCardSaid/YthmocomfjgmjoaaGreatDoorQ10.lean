/- Base. -/
import Derived.Test.YthmocomfjgmjoaaGreatDoorQ08
import Derived.Test.YthmocomfjgmjoaaGreatDoorQ00
import Derived.Lib.SortBridge
set_option maxHeartbeats 8000000
set_option maxRecDepth 100000
namespace Go.Proofs.YthmocomfjgmjoaaGreatDoor
open Go.RowKit Go.Proofs.Tryz
variable {L:I}{α:Type}{R:CP α}{S:U}{c:Nat}{cols:U}{g j k p:Nat}{r:Int}{row rows:U}{w:World}{x y:Int}{ys:U}{β:Type}
def CH(xs:U)(n k j:Nat):U:=(List.range n).map fun i:Nat=>(((xs.take k).filter fun x=>decide ((i:Int)<x)).length:Int)+if i<j then 1 else 0
theorem Qr(xs:U)(n k:Nat):CH xs n k 0=EN (xs.take k) n:=by
 unfold CH EN;exact List.map_congr_left fun i _=>by simp
theorem Pe(xs:U)(n:Nat):CH xs n 0 0=List.replicate n 0:=by
 unfold CH;simp[List.map_const']
theorem KW(xs:U)(n k j:Nat):(CH xs n k j).length=n:=by simp[CH]
theorem Qc{xs:U}{n:Nat}(hx:xs[k]? =some x)(h0:0≤x):CH xs n k x.toNat=CH xs n (k+1) 0:=by
 unfold CH;refine List.map_congr_left fun i _=>?_;rw[Ao,hx,List.filter_append,Ad];simp only[Option.toList_some,List.filter_cons,List.filter_nil];by_cases h:(i:Int)<x
 ·rw[if_pos J];simp[h]
 ·rw[if_neg J];simp[h]
theorem UM{xs:U}{n i:Nat}(hi:i<n):∃z:Int,(CH xs n k j)[i]? =some z∧0≤z∧z≤xs.length+1:=by
 unfold CH;rw[Ak,AA hi];refine⟨_,rfl,?_,?_⟩
 ·show(0:Int)≤_+_
  split<;>omega
 ·have h1:=List.length_filter_le (fun x=>decide ((i:Int)<x)) (xs.take k);have h2:(xs.take k).length≤xs.length:=by rw[At];omega
  show(_+_:Int)≤_
  split<;>omega
theorem SZ{xs:U}{n:Nat}{z:Int}(hz:(CH xs n k j)[j]? =some z):(CH xs n k j).set j (z+1)=CH xs n k (j+1):=by
 have hj:=(A5.1 hz).1;rw[KW]at hj;apply List.ext_getElem?;intro i;rw[List.getElem?_set];by_cases hi:j=i
 ·subst hi;rw[if_pos rfl,if_pos (by rw[KW];exact hj)];unfold CH at hz⊢;rw[Ak,AA hj]at hz⊢;simp only[Option.map_some,Option.some.injEq]at hz⊢;rw[if_neg J]at hz;rw[if_pos J];omega
 ·rw[if_neg hi];unfold CH;rw[Ak,Ak];cases hr:(List.range n)[i]? with
  |none=>rfl
  |some i'=>
   have:i'=i:=by
    have h1:=(A5.1 hr).1;rw[List.length_range]at h1;rw[AA h1]at hr;exact(Option.some.inj hr).symm
   subst this;simp only[Option.map_some,Option.some.injEq];have:(i'<j)↔(i'<j+1):=J;simp only[this]
theorem A2E{xs:U}{lo hi:Int}(h:xs.all (C1 lo hi)=true)(hx:xs[k]? =some x):lo≤x∧x≤hi:=by
 have:=Ar.1 h x (A4 hx);rwa[Bz]at this
theorem TK(v:Value)(xs:U)(n:Nat)(w:World)(hv:Au w v xs)(h1:1≤n)(h5:n≤5)(hl:xs.length≤5)(aQ:xs.all (C1 0 n)=true):Calls prog 158 #[v,.int .i64 n] w (N7 3 Ap w (EN xs n)):=by
 have Hv:=Z hv;have aT:=Z aQ;have Hr:=Z (show C1 1 5 (n:Int)=true from Ft J J);obtain⟨a,cap0,rfl,-,cJ,-,hc⟩:=hv;clear aQ;go_enter func158,ntmps158;go_wp2_with (first|(go_at_call 95;refine(Bi _ _ _ _).mono ?_;rintro e w' ⟨rfl,rfl⟩;rw[Hr.o])|(go_at_call 157;refine(C8 _ xs 0 n _ Hv.o).mono ?_;rintro e w' ⟨rfl,rfl⟩;rw[aT.o])|(at_make;refine EJ _ rfl _ _ 32 rfl 3 underlying32 Bg rfl Jq (R:=Ap) 0 ⟨rfl,Cc.small Jq Jq⟩ A8 n rfl rfl J ?_;intro w1 aw hbel1 cn;have fN:=Z cn;clear cn));have aw:=aw.qbg A8 (A2 w.heap.size) (show w.heap.size<w1.heap.size by rw[fN.o];omega);obtain⟨g,cap,g7,hg,ae,iG,-⟩:=aw.qac (by simp;omega);rw[List.length_replicate]at g7 ae;obtain⟨rfl,rfl⟩:w.heap.size=g∧n=cap:=by simpa using g7
 have aC:=Z (show Ag 3 Ap (Iv w.heap.size w1.heap.size) w1 (.slice (some ⟨w.heap.size,0,none⟩) n n) (CH xs n 0 0)from by rw[Pe];exact aw);clear aw;go_wp2;go_loopw [27] (fun i wr=>∃k:Nat,k≤xs.length∧i=.int .i64 k∧Hid (Ag 3 Ap (Iv w.heap.size w1.heap.size) wr (.slice (some ⟨w.heap.size,0,none⟩) n n) (CH xs n k 0))∧Below w.heap.size w wr∧wr.heap.size=w1.heap.size) (fun i _=>xs.length-(intOf i).toNat);exact⟨0,A7 _,rfl,aC,hbel1,rfl⟩;clear aC hbel1;obtain⟨k,hk,rfl,aC,aA,aM⟩:=hrel;have bX:=Z aM;clear aM;by_cases aF:k<xs.length
 ·obtain⟨b,off,rfl,hb,cP⟩:=hc J;obtain⟨x,hx⟩:∃x,xs[k]? =some x:=⟨_,A3 aF⟩;obtain⟨u,aW,rfl,-⟩:=cP k x hx;rw[←aA.cell (p:=⟨b,off+k,none⟩) hb]at aW;obtain⟨eR,nh⟩:=A2E aT.o hx;have cC:=Z (Qc (n:=n) hx eR);clear cP hx hc;go_wp2;go_loopw [8] (fun j wi=>∃j':Nat,(j':Int)≤x∧j=.int .i64 j'∧Hid (Ag 3 Ap (Iv w.heap.size w1.heap.size) wi (.slice (some ⟨w.heap.size,0,none⟩) n n) (CH xs n k j'))∧Below w.heap.size w wi∧wi.heap.size=w1.heap.size) (fun j _=>(x-intOf j).toNat);exact⟨0,eR,rfl,aC,aA,bX.o⟩;clear aC aA bX aW;obtain⟨j,hj,rfl,aC,aA,aM⟩:=hrel;have bX:=Z aM;clear aM;by_cases hltj:(j:Int)<x
  ·have pS:j<n:=J;obtain⟨z,hz,cT,bL⟩:=UM (xs:=xs) (k:=k) (j:=j) pS;obtain⟨zO,hfj,-⟩:=aC.o.qaf hz;have ei:=Z (show Ag 3 Ap (Iv w.heap.size w1.heap.size) (wr.setCell ⟨w.heap.size,j,none⟩ (.int .i64 (z+1))) (.slice (some ⟨w.heap.size,0,none⟩) n n) (CH xs n k (j+1))from by
    have h:=aC.o.qak (k:=j) (by rw[KW];exact pS) (c:=z+1) (Cc.small J J);rwa[SZ hz]at h)
   have sQ:=hg.1;clear hz aC;go_wp2;go_roundw;exact⟨j+1,J,by go_num,ei,aA.setCell sQ _,by rw[As];exact bX.o⟩;exact Jv
  ·have e:x.toNat=j:=J;have He:=Z (show CH xs n (k+1) 0=CH xs n k j from by rw[←cC.o,e]);clear e;go_wp2;go_roundw;exact⟨k+1,J,by go_num,by rw[He.o];exact aC,aA,bX.o⟩;exact Jv
 ·have e:k=xs.length:=J;have He:=Z (show CH xs n k 0=EN xs n from by rw[Qr,e,List.take_length]);clear e;go_wp2
  go_ret
  exact⟨_,rfl,by rw[←He.o,bX.o];exact aC.o,aA⟩
theorem TT(v:Value)(xs:U)(n:Nat)(w:World)(hv:Au w v xs)(h1:1≤n)(h5:n≤5)(hl:xs.length≤5)(aQ:xs.all (C1 0 n)=true):Calls prog 304 #[v,.int .i64 n] w (N7 3 Ap w (EN xs n)):=by
 have Hv:=Z hv;have aT:=Z aQ;have Hr:=Z (show C1 1 5 (n:Int)=true from Ft J J);obtain⟨a,cap0,rfl,-,cJ,-,hc⟩:=hv;clear aQ;go_enter func304,ntmps304;go_wp2_with (first|(go_at_call 201;refine(Bd _ _ _ _).mono ?_;rintro e w' ⟨rfl,rfl⟩;rw[Hr.o])|(at_make;refine EJ _ rfl _ _ 32 rfl 3 underlying32 Bg rfl Jq (R:=Ap) 0 ⟨rfl,Cc.small Jq Jq⟩ A8 n rfl rfl J ?_;intro w1 aw hbel1 cn;have fN:=Z cn;clear cn));have aw:=aw.qbg A8 (A2 w.heap.size) (show w.heap.size<w1.heap.size by rw[fN.o];omega);obtain⟨g,cap,g7,hg,ae,iG,-⟩:=aw.qac (by simp;omega);rw[List.length_replicate]at g7 ae;obtain⟨rfl,rfl⟩:w.heap.size=g∧n=cap:=by simpa using g7
 have aC:=Z (show Ag 3 Ap (Iv w.heap.size w1.heap.size) w1 (.slice (some ⟨w.heap.size,0,none⟩) n n) (CH xs n 0 0)from by rw[Pe];exact aw);clear aw;go_wp2;go_loopw [21] (fun i wr=>∃k:Nat,k≤xs.length∧i=.int .i64 k∧Hid (Ag 3 Ap (Iv w.heap.size w1.heap.size) wr (.slice (some ⟨w.heap.size,0,none⟩) n n) (CH xs n k 0))∧Below w.heap.size w wr∧wr.heap.size=w1.heap.size) (fun i _=>xs.length-(intOf i).toNat);exact⟨0,A7 _,rfl,aC,hbel1,rfl⟩;clear aC hbel1;obtain⟨k,hk,rfl,aC,aA,aM⟩:=hrel;have bX:=Z aM;clear aM;by_cases aF:k<xs.length
 ·obtain⟨b,off,rfl,hb,cP⟩:=hc J;obtain⟨x,hx⟩:∃x,xs[k]? =some x:=⟨_,A3 aF⟩;obtain⟨u,aW,rfl,-⟩:=cP k x hx;rw[←aA.cell (p:=⟨b,off+k,none⟩) hb]at aW;obtain⟨eR,nh⟩:=A2E aT.o hx;have cC:=Z (Qc (n:=n) hx eR);have uA:=Z (show C1 0 (n:Int) x=true from Ft eR nh);clear cP hx hc;go_wp2_with fail;refine(Bd _ _ _ _).mono ?_;rintro e w' ⟨rfl,rfl⟩;rw[uA.o];go_wp2;go_loopw [8] (fun j wi=>∃j':Nat,(j':Int)≤x∧j=.int .i64 j'∧Hid (Ag 3 Ap (Iv w.heap.size w1.heap.size) wi (.slice (some ⟨w.heap.size,0,none⟩) n n) (CH xs n k j'))∧Below w.heap.size w wi∧wi.heap.size=w1.heap.size) (fun j _=>(x-intOf j).toNat);exact⟨0,eR,rfl,aC,aA,bX.o⟩;clear aC aA bX aW;obtain⟨j,hj,rfl,aC,aA,aM⟩:=hrel;have bX:=Z aM;clear aM;by_cases hltj:(j:Int)<x
  ·have pS:j<n:=J;obtain⟨z,hz,cT,bL⟩:=UM (xs:=xs) (k:=k) (j:=j) pS;obtain⟨zO,hfj,-⟩:=aC.o.qaf hz;have ei:=Z (show Ag 3 Ap (Iv w.heap.size w1.heap.size) (wr.setCell ⟨w.heap.size,j,none⟩ (.int .i64 (z+1))) (.slice (some ⟨w.heap.size,0,none⟩) n n) (CH xs n k (j+1))from by
    have h:=aC.o.qak (k:=j) (by rw[KW];exact pS) (c:=z+1) (Cc.small J J);rwa[SZ hz]at h)
   have sQ:=hg.1;clear hz aC;go_wp2;go_roundw;exact⟨j+1,J,by go_num,ei,aA.setCell sQ _,by rw[As];exact bX.o⟩;exact Jv
  ·have e:x.toNat=j:=J;have He:=Z (show CH xs n (k+1) 0=CH xs n k j from by rw[←cC.o,e]);clear e;go_wp2;go_roundw;exact⟨k+1,J,by go_num,by rw[He.o];exact aC,aA,bX.o⟩;exact Jv
 ·have e:k=xs.length:=J;have He:=Z (show CH xs n k 0=EN xs n from by rw[Qr,e,List.take_length]);clear e;go_wp2
  go_ret
  exact⟨_,rfl,by rw[←He.o,bX.o];exact aC.o,aA⟩
def FU(S:U)(p:Nat)(x:Int):U:=S.take p++x::S.drop p
theorem Ua(S:U)(p:Nat)(x:Int):(FU S p x).length=S.length+1:=by
 unfold FU;rw[Ad,An,At,List.length_drop];omega
theorem A1a(S:U)(x:Int):FU S S.length x=S++[x]:=by simp[FU]
theorem A1Y(hp:p≤S.length)(x:Int):(FU S p x)[p]? =some x:=by
 unfold FU;rw[List.getElem?_append_right (by rw[At];omega),At,Nat.min_eq_left hp,Nat.sub_self];rfl
theorem L1(hy:S[p]? =some y)(x:Int):(FU S (p+1) x)[p]? =some y:=by
 unfold FU;have hp:=(A5.1 hy).1;rw[Aq (by rw[At];omega),List.getElem?_take,if_pos J];exact hy
theorem RM:∀{S:U}{p:Nat}{y:Int},S[p]? =some y→∀x,((FU S (p+1) x).set (p+1) y).set p x=FU S p x
 |[],p,y,h,x=>by simp at h
 |a::S,0,y,h,x=>by
  simp at h;subst h;simp[FU]
 |a::S,p+1,y,h,x=>by
  have:=RM (S:=S) (p:=p) (y:=y) (by simpa using h) x;simp only[FU,List.take_succ_cons,List.drop_succ_cons,List.cons_append,List.set_cons_succ]at this⊢;rw[this]
theorem NF:∀{S:U}{p:Nat}{x:Int},(∀y∈S.take p,x≤y)→(∀y∈S.drop p,y<x)→FU S p x=Lp x S
 |[],p,x,_,_=>by simp[FU,Lp]
 |a::S,0,x,_,h=>by
  have:=h a Jj;simp only[FU,List.take_zero,List.drop_zero,List.nil_append,Lp];rw[if_neg J]
 |a::S,p+1,x,h1,h2=>by
  have ha:=h1 a Jj;have:=NF (S:=S) (p:=p) (x:=x) (fun y hy=>h1 y (by simp[hy])) (fun y hy=>h2 y (by simpa using hy));simp only[FU,List.take_succ_cons,List.drop_succ_cons,List.cons_append,Lp]at this⊢;rw[if_pos ha,this]
theorem Zf{xs:U}(h:xs[k]? =some x):sortD (xs.take (k+1))=Lp x (sortD (xs.take k)):=by
 unfold sortD;rw[Ao,h,List.foldl_append];rfl
theorem ZD(hd:P4 S)(hy:S[p]? =some y)(cK:x≤y)(h2:∀y∈S.drop (p+1),y<x):FU S (p+1) x=Lp x S:=by
 refine NF (fun z hz=>?_) h2;obtain⟨i,hi,rfl⟩:=List.getElem_of_mem hz;rw[At]at hi;rw[List.getElem_take];obtain⟨hp,rfl⟩:=A5.1 hy;unfold P4 at hd;rw[List.pairwise_iff_getElem]at hd;by_cases hip:i=p
 ·subst hip;exact cK
 ·exact Int.le_trans cK (hd i p J hp J)
theorem A11(hy:S[p]? =some y)(cK:y<x)(h2:∀y∈S.drop (p+1),y<x):∀y∈S.drop p,y<x:=by
 intro z hz;rw[List.drop_eq_getElem_cons (A5.1 hy).1]at hz;rcases List.mem_cons.1 hz with e|hz
 ·obtain⟨hp,rfl⟩:=A5.1 hy;rw[e];exact cK
 ·exact h2 z hz
theorem Vb(v:Value)(xs:U)(w:World)(hv:Au w v xs)(hl:xs.length≤1048576):Calls prog 305 #[v] w (N7 3 Ap w (sortD xs)):=by
 obtain⟨a,cap0,rfl,-,cJ,-,hc⟩:=hv;go_enter func305,ntmps305;go_wp2;go_loopw [3,11] (fun v i wr=>∃k:Nat,k≤xs.length∧i=.int .i64 k∧Ag 3 Ap (Iv w.heap.size wr.heap.size) wr v (sortD (xs.take k))∧Below w.heap.size w wr) (fun _ i _=>xs.length-(intOf i).toNat);exact⟨0,A7 _,rfl,BK _ _ _ A8,Below.qab _ _⟩;obtain⟨k,hk,rfl,aB,aA⟩:=hrel;obtain⟨wo,rfl⟩:∃wo:World,wo=wr:=⟨_,rfl⟩;have bD:=aA.size;by_cases aF:k<xs.length
 ·obtain⟨b,off,rfl,hb,cP⟩:=hc J;obtain⟨x,hx⟩:∃x,xs[k]? =some x:=⟨_,A3 aF⟩;obtain⟨u,aW,rfl,hI⟩:=cP k x hx;rw[←aA.cell (p:=⟨b,off+k,none⟩) hb]at aW;obtain⟨S,hS⟩:∃S,S=sortD (xs.take k):=⟨_,rfl⟩;have hSl:S.length=k:=by rw[hS,CR,At];omega
  have sR:=Z (show sortD (xs.take (k+1))=Lp x S from by rw[hS];exact Zf hx);have Hd:=Z (show P4 S from by rw[hS];exact NN _);rw[←hS]at aB;have au:S.length<1099511627776:=J;obtain⟨p1,p2,p3,rfl⟩:=aB.shape;have aC:=Z aB;have qp:=Z hSl;clear cP hx hc aB hS hSl;go_wp2_with (first|(at_builtin;(refine AH rfl _ _ 32 rfl A8 3 underlying32 Bg rfl Jq w.heap.size wo.heap.size bD (A2 _) rfl rfl (by exact aC.o) (by exact⟨rfl,hI⟩) au ?_);intro v2 w2 hown2 hbel2 _;obtain⟨g,cap,rfl,hg,ae,iG,-⟩:=hown2.qac Jj)|fail);rw[show(S++[x]).length=k+1 from by rw[Ad,qp.o];rfl]at hown2 ae;rw[qp.o];have aX:=Z (show Ag 3 Ap (Iv w.heap.size w2.heap.size) w2 (.slice (some ⟨g,0,none⟩) (k+1) cap) (FU S k x)from by have h:=A1a S x;rw[qp.o]at h;rw[h];exact hown2);have m5:=aA.trans hbel2;clear hown2 aA hbel2;go_wp2;go_loopw [6] (fun pv wi=>∃p:Nat,p≤k∧pv=.int .i64 p∧Hid (Ag 3 Ap (Iv w.heap.size w2.heap.size) wi (.slice (some ⟨g,0,none⟩) (k+1) cap) (FU S p x))∧Hid (∀y∈S.drop p,y<x)∧Below w.heap.size w wi∧wi.heap.size=w2.heap.size) (fun pv _=>(intOf pv).toNat);exact⟨k,A2 _,by go_num,aX,(by intro y hy;rw[List.drop_eq_nil_of_le (by rw[qp.o];exact A2 _)]at hy;cases hy),m5,rfl⟩;clear aX m5 aW;obtain⟨p,hp,rfl,aC,Hgt,aA,aM⟩:=hrel;have bX:=Z aM;clear aM;cases p with
  |zero=>
   have aU:=Z (show FU S 0 x=Lp x S from NF Jj (by simpa using Hgt.o));have HO:=Z (show Ag 3 Ap (Iv w.heap.size wr.heap.size) wr (.slice (some ⟨g,0,none⟩) (k+1) cap) (Lp x S)from by rw[bX.o,←aU.o];exact aC.o);go_wp2;go_quiet (fail);go_wp2;go_roundw;exact⟨k+1,J,by go_num,by rw[sR.o];exact HO.o,below_drewN aA _⟩;exact Jv
  |succ p=>
   have fd:p<S.length:=by rw[qp.o];omega
   obtain⟨y,hy⟩:∃y,S[p]? =some y:=⟨_,A3 fd⟩;obtain⟨c1,f1,I1⟩:=aC.o.qaf (A1Y (p:=p+1) J x);obtain⟨c2,f2,I2⟩:=aC.o.qaf (L1 hy x);have hIx:=hI;by_cases cK:y<x
   ·have jZ:decide (y<x)=true:=decide_eq_true cK;have uB:=Z (A11 hy cK Hgt.o);have kd:=aC.o.qak (k:=p+1) (by rw[Ua,qp.o];omega) I2;have m6:=kd.qak (k:=p) (by rw[List.length_set,Ua,qp.o];omega) I1;rw[RM hy]at m6;have ei:=Z m6;have c3:(wr.setCell ⟨g,p+1,none⟩ (.int .i64 y)).cell? ⟨g,p,none⟩=some (.int .i64 y):=(kd.qaf (by rw[List.getElem?_set_ne J];exact L1 hy x)).1;have f3:(wr.setCell ⟨g,p+1,none⟩ (.int .i64 y)).frozen? ⟨g,p,none⟩=false:=(kd.qaf (by rw[List.getElem?_set_ne J];exact L1 hy x)).2.1;have sQ:=hg.1;have hz:((p:Int)+1)-1=(p:Int):=J;clear hy fd kd m6 aC Hgt cK;go_wp2;go_quiet (fail);go_wp2;go_roundw
    case rel=>exact⟨p,J,by go_num,by exact ei.o,uB,((below_drewN aA _).setCell (show w.heap.size≤(⟨g,p+1,none⟩:Addr).block from sQ) _).setCell (show w.heap.size≤(⟨g,p,none⟩:Addr).block from sQ) _,by rw[As,As];exact bX.o⟩
    case measure=>simp[intOf]
   ·have jZ:decide (y<x)=false:=decide_eq_false cK;have aU:=Z (ZD Hd.o hy J Hgt.o);have HO:=Z (show Ag 3 Ap (Iv w.heap.size wr.heap.size) wr (.slice (some ⟨g,0,none⟩) (k+1) cap) (Lp x S)from by rw[bX.o,←aU.o];exact aC.o);clear hy fd cK;go_wp2;go_quiet (fail);go_wp2;go_roundw;exact⟨k+1,J,by go_num,by rw[sR.o];exact HO.o,below_drewN aA _⟩;exact Jv
 ·have e:k=xs.length:=J;have He:=Z (show sortD (xs.take k)=sortD xs from by rw[e,List.take_length]);have aC:=Z aB;clear e aB;go_wp2
  go_ret
  exact⟨_,rfl,by rw[←He.o];exact aC.o,aA⟩
theorem Sl.pre{S:Bk}{a:Option Addr}{n:Nat}{xs:List α}(h:Sl R S w (.slice a n c) xs)(hk:k≤xs.length):Sl R S w (.slice a k c) (xs.take k):=by
 obtain⟨a',cap',he,h1,h2,h3,h4⟩:=h;simp only[Value.slice.injEq]at he;obtain⟨rfl,rfl,rfl⟩:=he;have hl:(xs.take k).length=k:=by rw[At];omega
 refine⟨a,c,by rw[hl],J,J,h3,fun h0=>?_⟩;obtain⟨b,off,rfl,hb,hc⟩:=h4 J;refine⟨b,off,rfl,hb,fun j x hj=>hc j x ?_⟩;rw[List.getElem?_take]at hj
 split at hj
 ·exact hj
 ·cases hj
theorem Au.pre{a:Option Addr}{n:Nat}{xs:U}(h:Au w (.slice a n c) xs)(hk:k≤xs.length):Au w (.slice a k c) (xs.take k):=Sl.pre h hk
theorem DT(xs:U)(n:Nat):(EN xs n).length=n:=by simp[EN]
theorem A0P{xs:U}{n:Nat}:∀x∈EN xs n,0≤x∧x≤xs.length:=by
 intro x hx;unfold EN at hx;obtain⟨i,-,rfl⟩:=AE.1 hx;have:=List.length_filter_le (fun x=>decide ((i:Int)<x)) xs;omega
theorem RW{xs:U}{n:Nat}(h:xs.length≤5)(hn:n≤5):IP ((EN xs n).take k):=by
 refine⟨by rw[At,DT];omega,fun x hx=>?_⟩;have:=A0P x (List.mem_of_mem_take hx);omega
theorem QF{m:Int}(h:ys.all (C1 0 m)=true)(hm:m≤5)(hl:ys.length≤5):IP ((sortD ys).take k):=by
 refine⟨by rw[At,CR];omega,fun x hx=>?_⟩;have h1:x∈ys:=(Gx ys).mem_iff.1 (List.mem_of_mem_take hx);have:=Ar.1 h x h1;rw[Bz]at this;omega
theorem GH{xs:U}(h:AT xs ys=true):xs.all (C1 0 ys.length)=true∧ys.all (C1 0 xs.length)=true:=by
 unfold AT at h;simp only[Af]at h;exact⟨h.1.1.2,h.1.2⟩
theorem XW{xs:U}(h:AT xs ys=true)(hk:k≤ys.length):AP ((EN xs ys.length).take k)=LU xs k:=
 A0G (fun x hx=>by have:=Ar.1 (GH h).1 x hx;rw[Bz]at this;exact this.1) hk
theorem Ov{xs:U}(h1:1≤k)(h2:k≤ys.length)(h:CU xs ys k)(hb:∀i,1≤i→i<k→¬CU xs ys i):FJ xs ys=k:=by
 unfold FJ;have e:(List.range ys.length).find? (fun i=>decide (CU xs ys (i+1)))=some (k-1):=by
  rw[List.find?_range_eq_some];refine⟨by rw[show k-1+1=k by omega];exact decide_eq_true h,AG.2 J,fun j hj=>?_⟩;have:=hb (j+1) J J;simp[this]
 rw[e];dsimp only;omega
theorem OD(xs ys:U):Fq xs ys≤ys.length:=by
 unfold Fq
 split
 ·by_cases h:FJ xs ys=0
  ·omega
  ·exact(Zo h).2.1
 ·omega
theorem U5{xs:U}(h:IP xs)(hl:xs.length≤5):-5242880≤AP xs∧AP xs≤5242880:=by
 have:=NL h xs.length (A2 _);rw[List.take_length]at this;omega
theorem EV(v v2:Value)(xs ys:U)(w:World)(hv:Au w v xs)(aS:Au w v2 ys):Calls prog 188 #[v,v2] w fun e w'=>e=.returned (.bool (AT xs ys))∧w=w':=by
 have Hv:=Z hv;have aY:=Z aS;obtain⟨a,cap,rfl,-,cJ,-,hc⟩:=hv;obtain⟨a2,cap2,rfl,-,hle2,-,cM⟩:=aS;cases hs:(C1 1 5 xs.length&&C1 1 5 ys.length)
 ·have Hf:=Z (show AT xs ys=false from by unfold AT;rw[hs];rfl);have Hs:=Z hs;clear hs;go_enter func188,ntmps188;go_wp2_with fail;refine(IJ _ _ _).mono ?_;rintro e w' ⟨rfl,rfl⟩;rw[Hs.o];go_wp2
  go_ret
  exact⟨AW Hf.o.symm,rfl⟩
 have dY:=hs;rw[Af,Bz,Bz]at dY;obtain⟨⟨h1,h2⟩,h3,h4⟩:=dY;have Hs:=Z hs;clear hs;go_enter func188,ntmps188;go_wp2_with fail;refine(IJ _ _ _).mono ?_;rintro e w' ⟨rfl,rfl⟩;rw[Hs.o];go_wp2;go_loopw [17] (fun i wr=>∃k:Nat,k≤xs.length∧i=.int .i64 k∧Hid (∀x∈xs.take k,C1 0 (ys.length:Int) x=true)∧w=wr) (fun i _=>xs.length-(intOf i).toNat);exact⟨0,A7 _,rfl,(by intro x hx;simp at hx),rfl⟩;obtain⟨k,hk,rfl,aT,rfl⟩:=hrel;by_cases aF:k<xs.length
 ·obtain⟨b,off,rfl,hb,cP⟩:=hc J;obtain⟨x,hx⟩:∃x,xs[k]? =some x:=⟨_,A3 aF⟩;obtain⟨u,aW,rfl,-⟩:=cP k x hx;have Hx:=Z hx;clear cP hx hc;cases bV:C1 0 (ys.length:Int) x
  ·have dC:=Z bV;have Hf:=Z (show AT xs ys=false from by
    cases hh:AT xs ys
    ·rfl
    ·have:=Ar.1 (GH hh).1 x (A4 Hx.o);rw[bV]at this;cases this)
   clear bV;go_wp2_with fail;refine(Bd _ _ _ _).mono ?_;rintro e w' ⟨rfl,rfl⟩;rw[dC.o];go_wp2
   go_ret
   exact⟨AW Hf.o.symm,rfl⟩
  ·have dC:=Z bV;clear bV;have eV:=Z (show ∀z∈xs.take (k+1),C1 0 (ys.length:Int) z=true from by
    intro z hz;rw[Ao,Hx.o]at hz;rcases List.mem_append.1 hz with h|h
    ·exact aT.o z h
    ·simp at h;rw[h];exact dC.o)
   go_wp2_with fail;refine(Bd _ _ _ _).mono ?_;rintro e w' ⟨rfl,rfl⟩;rw[dC.o];go_wp2;go_roundw;exact⟨k+1,J,by go_num,eV,by first|rfl|trivial⟩;exact Jv
 ·have sS:=Z (show xs.all (C1 0 (ys.length:Int))=true from by
   rw[Ar];have h:=aT.o;rw[A9 J]at h;exact h)
  clear aT;go_wp2;go_loopw [29] (fun i wr=>∃k:Nat,k≤ys.length∧i=.int .i64 k∧Hid (∀x∈ys.take k,C1 0 (xs.length:Int) x=true)∧w=wr) (fun i _=>ys.length-(intOf i).toNat);exact⟨0,A7 _,rfl,(by intro x hx;simp at hx),rfl⟩;obtain⟨k,hk,rfl,aT,rfl⟩:=hrel;by_cases aF:k<ys.length
  ·obtain⟨b,off,rfl,hb,cP⟩:=cM J;obtain⟨x,hx⟩:∃x,ys[k]? =some x:=⟨_,A3 aF⟩;obtain⟨u,aW,rfl,-⟩:=cP k x hx;have Hx:=Z hx;clear cP hx cM;cases bV:C1 0 (xs.length:Int) x
   ·have dC:=Z bV;have Hf:=Z (show AT xs ys=false from by
     cases hh:AT xs ys
     ·rfl
     ·have:=Ar.1 (GH hh).2 x (A4 Hx.o);rw[bV]at this;cases this)
    clear bV;go_wp2_with fail;refine(Bd _ _ _ _).mono ?_;rintro e w' ⟨rfl,rfl⟩;rw[dC.o];go_wp2
    go_ret
    exact⟨AW Hf.o.symm,rfl⟩
   ·have dC:=Z bV;clear bV;have eV:=Z (show ∀z∈ys.take (k+1),C1 0 (xs.length:Int) z=true from by
     intro z hz;rw[Ao,Hx.o]at hz;rcases List.mem_append.1 hz with h|h
     ·exact aT.o z h
     ·simp at h;rw[h];exact dC.o)
    go_wp2_with fail;refine(Bd _ _ _ _).mono ?_;rintro e w' ⟨rfl,rfl⟩;rw[dC.o];go_wp2;go_roundw;exact⟨k+1,J,by go_num,eV,by first|rfl|trivial⟩;exact Jv
  ·have zP:ys.all (C1 0 (xs.length:Int))=true:=by
    rw[Ar];have h:=aT.o;rw[A9 J]at h;exact h
   have kV:=Iu sS.o J J;have qE:=Iu zP J J;have Hr:=Z (show AT xs ys=decide (AP xs=AP ys)from by unfold AT;rw[Hs.o,sS.o,zP];rfl);have HV:=Z (show Au w (.slice a xs.length cap) xs from Hv.o);have uC:=Z (show Au w (.slice a2 ys.length cap2) ys from aY.o);clear zP aT;go_wp2_with fail;refine(GA _ _ _ HV.o kV).mono ?_;rintro e w' ⟨rfl,rfl⟩;go_wp2_with fail;refine(GA _ _ _ uC.o qE).mono ?_;rintro e w' ⟨rfl,rfl⟩;go_wp2
   go_ret
   exact⟨AW (by rw[Hr.o,Bool.eq_iff_iff];simp),rfl⟩
theorem A21(v v2:Value)(xs ys:U)(k:Nat)(w:World)(hv:Au w v xs)(aS:Au w v2 ys)(hok:AT xs ys=true)(h1:1≤k)(hk:k≤ys.length):Calls prog 275 #[v,v2,.int .i64 k] w fun e w'=>e=.returned (.int .i64 (LU xs k-AP ((sortD ys).take k)))∧Below w.heap.size w w':=by
 obtain⟨x1,x5,y1,y5,-,-,-⟩:=BG hok;obtain⟨ax,ay⟩:=GH hok;have Hv:=Z hv;have aY:=Z aS;have Hm:=Z (XW hok hk);have kV:=RW (k:=k) x5 y5;have qE:=QF (k:=k) ay J y5;have pT:=Z kV;have xV:=Z qE;have sS:=Z ax;obtain⟨a,cap,rfl,-⟩:=hv;obtain⟨a2,cap2,rfl,-⟩:=aS;clear hok ax ay kV qE;go_enter func275,ntmps275;go_wp2_with fail;refine(TT _ xs ys.length _ Hv.o y1 y5 x5 sS.o).mono ?_;rintro e w1 ⟨v1,rfl,o1,b1⟩;obtain⟨g,c1,rfl,-,hc1,-,-⟩:=o1.qac (by rw[DT];omega);rw[DT]at hc1⊢;have gx:=o1.ints;rw[DT]at gx;have fS:=Z (gx.pre (k:=k) (by rw[DT];exact hk));have yW:k≤c1:=J;clear o1 gx;go_wp2_with fail;refine(GA _ _ _ fS.o pT.o).mono ?_;rintro e w' ⟨rfl,rfl⟩;rw[Hm.o];go_wp2_with fail;refine(Vb _ ys _ (aY.o.keep b1) J).mono ?_;rintro e w2 ⟨v2,rfl,o2,b2⟩;obtain⟨g2,c2,rfl,-,cM,-,-⟩:=o2.qac (by rw[CR];omega);rw[CR]at cM⊢;have ke:=o2.ints;rw[CR]at ke;have dB:=Z (ke.pre (k:=k) (by rw[CR];exact hk));have zQ:k≤c2:=J;clear o2 ke;go_wp2_with fail;refine(GA _ _ _ dB.o xV.o).mono ?_;rintro e w' ⟨rfl,rfl⟩;have bb:=b1.qaa b2 (A2 _);have B1:=U5 pT.o (by rw[At,DT];omega);have B2:=U5 xV.o (by rw[At,CR];omega);rw[Hm.o]at B1;go_wp2
 go_ret
 exact⟨CY (by go_num),bb⟩
theorem IK(v v2:Value)(xs ys:U)(w:World)(hv:Au w v xs)(aS:Au w v2 ys):Calls prog 206 #[v,v2] w fun e w'=>e=.returned (.int .i64 (Fq xs ys))∧Below w.heap.size w w':=by
 have Hv:=Z hv;have aY:=Z aS;obtain⟨a,cap,rfl,-⟩:=hv;obtain⟨a2,cap2,rfl,-⟩:=aS;cases hok:AT xs ys
 ·have aR:=Z hok;have Hr:=Z (show Fq xs ys=0 from by unfold Fq;rw[hok];rfl);clear hok;go_enter func206,ntmps206;go_wp2_with fail;refine(EV _ _ _ _ _ Hv.o aY.o).mono ?_;rintro e w' ⟨rfl,rfl⟩;rw[aR.o];go_wp2
  go_ret
  exact⟨CY (by rw[Hr.o];rfl),A6 _ _⟩
 have Hr:=Z (show Fq xs ys=FJ xs ys from by unfold Fq;rw[hok];rfl);obtain⟨x1,x5,y1,y5,-,-,-⟩:=BG hok;have aR:=Z hok;clear hok;go_enter func206,ntmps206;go_wp2_with fail;refine(EV _ _ _ _ _ Hv.o aY.o).mono ?_;rintro e w' ⟨rfl,rfl⟩;rw[aR.o];go_wp2;go_loopw [5] (fun i wr=>∃k:Nat,1≤k∧k≤ys.length+1∧i=.int .i64 k∧Hid (∀i,1≤i→i<k→¬CU xs ys i)∧Below w.heap.size w wr) (fun i _=>(ys.length+1-intOf i).toNat);exact⟨1,A2 _,J,rfl,(by intro i h1 h2;omega),A6 _ _⟩;obtain⟨k,fH,hk,rfl,fW,aA⟩:=hrel;by_cases cJ:k≤ys.length
 ·have hd:decide ((k:Int)≤(ys.length:Int))=true:=by rw[Ah];omega
  go_wp2_with fail;refine(A21 _ _ xs ys k _ (Hv.o.keep aA) (aY.o.keep aA) aR.o fH cJ).mono ?_;rintro e w2 ⟨rfl,b2⟩;have af:=aA.qaa b2 (A2 _);obtain⟨z,hz⟩:∃z,z=LU xs k-AP ((sortD ys).take k):=⟨_,rfl⟩;rw[←hz];by_cases aF:z<0
  ·have Hw:=Z (Ov fH cJ (by unfold CU;omega) fW.o);clear hz;go_wp2
   go_ret
   exact⟨CY (by rw[Hr.o,Hw.o]),af⟩
  ·have kC:=Z (show ∀i,1≤i→i<k+1→¬CU xs ys i from by
    intro i h1 h2;by_cases e:i=k
    ·rw[e];unfold CU;omega
    ·exact fW.o i h1 J)
   clear hz;go_wp2;go_roundw;exact⟨k+1,J,J,by go_num,kC,af⟩;exact Jv
 ·have hd:decide ((k:Int)≤(ys.length:Int))=false:=by rw[decide_eq_false_iff_not];omega
  have Hw:=Z (show FJ xs ys=0 from LV.2 fun i h1 h2=>fW.o i h1 J);go_wp2
  go_ret
  exact⟨CY (by rw[Hr.o,Hw.o];rfl),aA⟩
theorem DB(v v2:Value)(xs ys:U)(w:World)(hv:Au w v xs)(aS:Au w v2 ys):Calls prog 185 #[v,v2] w fun e w'=>e=.returned (.bool (BF xs ys))∧Below w.heap.size w w':=by
 have Hv:=Z hv;have aY:=Z aS;obtain⟨a,cap,rfl,-⟩:=hv;obtain⟨a2,cap2,rfl,-⟩:=aS;cases hok:AT xs ys
 ·have Hr:=Z (show BF xs ys=false from by unfold BF;rw[hok];rfl);have aR:=Z hok;clear hok;go_enter func185,ntmps185;go_wp2_with (first|(go_at_call 188;refine(EV _ _ _ _ _ Hv.o aY.o).mono ?_;rintro e w' ⟨rfl,rfl⟩;rw[aR.o]))
  go_ret
  exact⟨AW (by rw[Hr.o]),A6 _ _⟩
 ·have Hr:=Z (show BF xs ys=decide (Fq xs ys=0)from by unfold BF;rw[hok];rfl);have nT:=OD xs ys;obtain⟨x1,x5,y1,y5,-,-,-⟩:=BG hok;obtain⟨z,hz⟩:∃z,z=Fq xs ys:=⟨_,rfl⟩;rw[←hz]at nT;have Hz:=Z hz;have aR:=Z hok;clear hok hz;by_cases h0:z=0
  ·have hb:((z:Int)==0)=true:=by rw[beq_iff_eq];omega
   go_enter func185,ntmps185;go_wp2_with (first|(go_at_call 188;refine(EV _ _ _ _ _ Hv.o aY.o).mono ?_;rintro e w' ⟨rfl,rfl⟩;rw[aR.o])|(go_at_call 206;refine(IK _ _ _ _ _ Hv.o aY.o).mono ?_;rintro e w2 ⟨rfl,b2⟩;rw[←Hz.o]))
   go_ret
   exact⟨AW (by rw[Hr.o,←Hz.o,h0];rfl),b2⟩
  ·have hb:((z:Int)==0)=false:=by rw[Ai];omega
   go_enter func185,ntmps185;go_wp2_with (first|(go_at_call 188;refine(EV _ _ _ _ _ Hv.o aY.o).mono ?_;rintro e w' ⟨rfl,rfl⟩;rw[aR.o])|(go_at_call 206;refine(IK _ _ _ _ _ Hv.o aY.o).mono ?_;rintro e w2 ⟨rfl,b2⟩;rw[←Hz.o]))
   go_ret
   exact⟨AW (by rw[Hr.o,←Hz.o,decide_eq_false h0]),b2⟩
theorem A0c(hR:LZ R)(w:World)(E:TypeId){u:Value}{x:α}{T:Bk}{lo:Nat}(hu:R T w u x)(hT:∀b,T b→lo≤b∧b<w.heap.size)(hlo:lo≤w.heap.size):
  Ag E R (Iv lo (w.heap.size+1)) (w.alloc (.cells #[u] E)) (.slice (some ⟨w.heap.size,0,none⟩) 1 1) [x]:=by
 refine .inr ⟨w.heap.size,#[u],rfl,⟨hlo,Nat.lt_succ_self _⟩,heap_alloc_new w _,Jj,by simp[maxLen],Jj,fun k b=>T b∧k=0,fun k b hb=>⟨⟨(hT b hb.1).1,Nat.lt_succ_of_lt (hT b hb.1).2⟩,by have:=(hT b hb.1).2;omega⟩,fun j k b hj hk=>by rw[hj.2,hk.2],fun k y hk=>?_⟩;have ap:k=0:=by
  have:=(A5.1 hk).1;simpa using this
 subst ap;simp at hk;subst hk;exact⟨u,rfl,hR.mono (fun b hb=>⟨hb,rfl⟩) (hR.same (fun b hb=>Below.heap_alloc _ _ _ (hT b hb).2) hu)⟩
def Jy(n:Nat)(k:Int)(x:Nat):I:=if(x:Int)≤k then(Cl n (k-x)).map ((x:Int):: ·)else[]
def E5(n:Nat)(k:Int)(x:Nat):I:=(List.range x).flatMap (Jy n k)
theorem Ok(n:Nat)(k:Int):E5 n k 0=[]:=by simp[E5]
theorem Gc(n:Nat)(k:Int)(x:Nat):E5 n k (x+1)=E5 n k x++Jy n k x:=by
 unfold E5;rw[List.range_succ,List.flatMap_append];simp
theorem WS(n:Nat)(k:Int):E5 n k 2=Cl (n+1) k:=by
 rw[Gc,Gc,Ok,Cl];unfold Jy;simp
theorem Mw:∀(n:Nat)(k:Int),(Cl n k).length≤2^n
 |0,k=>by unfold Cl;split<;>simp
 |n+1,k=>by
  unfold Cl;have h1:=Mw n k;have h2:=Mw n (k-1);rw[Ad,Nat.pow_succ];have a1:(if 0≤k then(Cl n k).map (0:: ·)else[]).length≤2^n:=by split<;>simp[h1]
  have a2:(if 1≤k then(Cl n (k-1)).map (1:: ·)else[]).length≤2^n:=by split<;>simp[h2]
  omega
theorem O8{n:Nat}(h:n≤5)(k:Int):(Cl n k).length≤32:=by
 have h1:=Mw n k;have h2:=Nat.pow_le_pow_right (n:=2) Jq h;omega
theorem XR{n:Nat}(h:n≤5)(k:Int)(x:Nat):(E5 n k x).length≤x*32:=by
 induction x with
 |zero=>simp[E5]
 |succ x ih=>
  rw[Gc,Ad];have:(Jy n k x).length≤32:=by
   unfold Jy
   split
   ·rw[Ay];exact O8 h _
   ·simp
  omega
theorem TY(f:α→β){L:List α}{x:α}(h:L[j]? =some x):(L.take (j+1)).map f=(L.take j).map f++[f x]:=by
 rw[Ao,h,List.map_append];rfl
theorem A0L:(Tryz.prog.info? 32).map (fun i=>(i.zero,i.size,i.bytes))=some (some (.slice none 0 0),1,24):=by kernel_rfl
theorem A15:∀(n:Nat)(k:Int)(w:World),n≤5→-100≤k→k≤100→Calls prog 254 #[.int .i64 n,.int .i64 k] w (N7 32 (Ag 3 Ap) w (Cl n k)):=by
 intro n;induction n with
 |zero=>
  intro k w _ _ _;by_cases hk:k=0
  ·subst hk;have Hb:=Z (show Cl 0 0=[[]]from rfl);have h1:=BK w 3 w.heap.size A8;have hz:(w.alloc (.cells #[] 3)).heap.size=w.heap.size+1:=Jj;have h2:=A0c (Ab (E:=3) A8) (w.alloc (.cells #[] 3)) 32 (lo:=w.heap.size) h1 (fun b hb=>⟨hb.1,hb.2⟩) (by rw[hz];omega);rw[hz]at h2;have H2:=Z h2;clear h1 hz h2;go_enter func254,ntmps254;go_wp2
   go_ret
   refine⟨_,rfl,by rw[Hb.o];exact(Ab (Ab A8)).mono (S:=Iv w.heap.size (w.heap.size+1+1)) (fun b hb=>⟨hb.1,by have:=hb.2;simp at this⊢;omega⟩) H2.o,?_⟩;exact(Below.qab w _).qaa (Below.qab _ _) (A2 _)
  ·have Hb:=Z (show Cl 0 k=[]from by unfold Cl;rw[if_neg hk]);have hd:(k==0)=false:=by rw[Ai];exact hk
   clear hk;go_enter func254,ntmps254;go_wp2
   go_ret
   exact⟨_,rfl,by rw[Hb.o];exact Ag.nil _ _ _ _,A6 _ _⟩
 |succ n ih=>
  intro k w hn fH jp;have hn:n≤4:=J;have IH:=Z ih;have kf:=Z (WS n k);obtain⟨N,hN⟩:∃N:Nat,N=n+1:=⟨_,rfl⟩;rw[←hN]at kf⊢;have pG:((N:Int)==0)=false:=by rw[Ai];omega
  have ep:(N:Int)-1=(n:Int):=J;clear ih hN;go_enter func254,ntmps254;go_wp2;go_loopw [5,6] (fun v i wr=>∃x:Nat,x≤2∧i=.int .i64 x∧Hid (Ag 32 (Ag 3 Ap) (Iv w.heap.size wr.heap.size) wr v (E5 n k x))∧Below w.heap.size w wr) (fun _ i _=>2-(intOf i).toNat);exact⟨0,J,rfl,by rw[Ok];exact BK _ _ _ (Ab A8),Below.qab _ _⟩;obtain⟨x,hx,rfl,aC,aA⟩:=hrel;obtain⟨wo,rfl⟩:∃wo:World,wo=wr:=⟨_,rfl⟩;have bD:=aA.size;by_cases aF:x<2
  ·have jZ:decide ((x:Int)<2)=true:=by rw[Ah];omega
   by_cases f4:(x:Int)≤k
   ·have li:decide (k≥(x:Int))=true:=decide_eq_true f4;have xW:decide ((x:Int)≤k)=true:=decide_eq_true f4;obtain⟨L,hL⟩:∃L,L=Cl n (k-x):=⟨_,rfl⟩;have HL:=Z hL;have m7:L.length≤32:=by rw[hL];exact O8 J _
    have m8:=Z (show Jy n k x=L.map ((x:Int):: ·)from by unfold Jy;rw[if_pos f4,hL]);clear hL;go_wp2_with fail;refine(IH.o (k-x) _ J J J).mono ?_;rintro e wl ⟨vl,rfl,ol,bl⟩;rw[←HL.o]at ol;obtain⟨aL,cL,rfl,-⟩:=id ol.qag;have oC:=bl.size;have iH:=Z ol;have ny:=Z bl;have qq:L.length≤9223372036854775807:=J;have aX:=Z (Ag.keep (Ab A8) aC.o bl (A2 _));have eU:=aA.qaa bl (A2 _);clear ol aC;go_wp2;go_loopw [5,30] (fun v j wr=>∃j':Nat,j'≤L.length∧j=.int .i64 j'∧∃S,Hid (Ag 32 (Ag 3 Ap) S wr v (E5 n k x++(L.take j').map ((x:Int):: ·)))∧Hid (∀b,S b→(Iv w.heap.size wo.heap.size b∨wl.heap.size≤b)∧b<wr.heap.size)∧Hid (AO (Iv w.heap.size wo.heap.size) wl wr)) (fun _ j _=>L.length-(intOf j).toNat);exact⟨0,A7 _,rfl,Iv w.heap.size wo.heap.size,by rw[List.take_zero,List.map_nil,List.append_nil];exact aX.o,fun b hb=>⟨.inl hb,by have:=hb.2;omega⟩,AO.refl _ _⟩;clear aX;obtain⟨j,hj,rfl,S,Hs,HS,Ho⟩:=hrel;obtain⟨wi,rfl⟩:∃wi:World,wi=wr:=⟨_,rfl⟩;have hsi:=Ho.o.size;obtain⟨s1,s2,s3,rfl⟩:=Hs.o.shape;by_cases hltj:j<L.length
    ·obtain⟨l,hl⟩:∃l,L[j]? =some l:=⟨_,A3 hltj⟩;obtain⟨gL,capL,heL,-⟩:=iH.o.qac J;simp only[Value.slice.injEq,true_and]at heL;obtain⟨rfl,cP⟩:=heL;subst cP;have gF:Ag 32 (Ag 3 Ap) (Iv wo.heap.size wl.heap.size) wi (.slice (some ⟨gL,0,none⟩) L.length cL) L:=(Ab (Ab A8)).same (fun b hb=>Ho.o.block b hb.2 fun h=>by have:=h.2;have:=hb.1;omega) iH.o;obtain⟨-,-,-,-,T,uk,aH,eH,hT,-⟩:=gF.qal (Ab A8) hl;obtain⟨y1,y2,y3,rfl⟩:=eH.shape;have dN:l.length=n:=by
      have h:=A4 hl;rw[HL.o]at h;exact(G6.1 h).1
     have Hl:=Z hl;have HT:=Z hT;have h1:=A0c A8 wi 3 (u:=.int .i64 x) (x:=(x:Int)) (T:=fun _=>False) (lo:=wi.heap.size) ⟨rfl,Cc.small J J⟩ (fun _ h=>h.elim) (A2 _);have H1:=Z h1;have fO:=Z (Below.qab wi (.cells #[.int .i64 x] 3));have ik:(wi.alloc (.cells #[.int .i64 (x:Int)] 3)).heap.size=wi.heap.size+1:=Jj;have uD:=Z ik;have zR:=Z (Au.keep eH.ints fO.o);have ff:([(x:Int)]:U).length+l.length≤1099511627776:=by simp;omega
     have fg:(E5 n k x++(L.take j).map ((x:Int):: ·)).length<1099511627776:=by
      have:=XR (n:=n) J k x;rw[Ad,Ay,At];omega
     have HsK:=Z (show ∀W,Below wi.heap.size wi W→Ag 32 (Ag 3 Ap) S W (.slice s1 s2 s3) (E5 n k x++(L.take j).map ((x:Int):: ·))from fun W hW=>(Ab (Ab A8)).same (Ac hW fun b hb=>(HS.o b hb).2) Hs.o);clear gF eH hT hl dN h1 ik;go_wp2_with (first
      |(at_builtin;refine DM rfl _ _ 32 rfl 3 underlying32 Bg rfl (Iv wi.heap.size (wi.heap.size+1)) rfl rfl (by exact H1.o) (by exact zR.o) ff ?_;intro v2 w2 hown2 honly2 _;obtain⟨q1,q2,q3,rfl⟩:=hown2.shape;have af:=Z (fO.o.trans (honly2.below (by rw[uD.o];omega) (fun b hb=>(H1.o.qae b hb).1)));have jv:=Z ((Ab A8).mono (S':=Iv wi.heap.size w2.heap.size) (fun b hb=>hb.elim (fun h=>⟨h.1,by have h1:=h.2;have h2:=honly2.size;rw[uD.o]at h2;omega⟩) (fun h=>⟨by have h1:=h.1;rw[uD.o]at h1;omega,h.2⟩)) hown2);have hs2:=af.o.size;clear hown2 honly2)
      |(at_builtin;(refine F6 (w:=w2.alloc (.cells #[.slice q1 q2 q3] 32)) (v:=.slice s1 s2 s3) (u:=.slice q1 q2 q3) (x:=(x:Int)::l) (gb:=w2.heap.size) (c:=1) rfl _ _ 31 rfl (Ab A8) 32 underlying31 A0L rfl Jq S (Iv wi.heap.size w2.heap.size) rfl rfl (by exact(B9.new w2 #[.slice q1 q2 q3] 32).cell 0) (by exact HsK.o _ (af.o.qaa (Below.qab _ _) (A2 _))) (by exact(Ab A8).same (Ac (Below.qab w2 _) fun b hb=>hb.2) jv.o) (fun b h1 h2=>by have:=(HS.o b h1).2;have:=h2.1;omega) (fun b h1=>by have:=(HS.o b h1).2;simp;omega) (fun b h1=>by have:=h1.2;simp;omega) fg ?_;intro v3 w3 o3 h3;obtain⟨z1,z2,z3,rfl⟩:=o3.shape))
      |fail)
     have cY:=Z o3;have h23:wi.heap.size≤(w2.alloc (.cells #[.slice q1 q2 q3] 32)).heap.size:=by simp;omega
     have HO:=Z (show AO (Iv w.heap.size wo.heap.size) wl w3 from(Ho.o.qai (AO.qaj (af.o.qaa (Below.qab _ (.cells #[.slice q1 q2 q3] 32)) (A2 _)) _)).qai (h3.mono fun b hb _=>by
      have:=(HS.o b (Hs.o.qae b hb)).1;exact this))
     have aG:=Z (TY ((x:Int):: ·) Hl.o);clear o3 h3;go_wp2;go_roundw;exact⟨j+1,J,by go_num,fun b=>(S b∨Iv wi.heap.size w2.heap.size b∨(w2.alloc (.cells #[.slice q1 q2 q3] 32)).heap.size≤b)∧b<w3.heap.size,by rw[aG.o,←List.append_assoc];exact cY.o,fun b hb=>⟨hb.1.elim (fun h=>(HS.o b h).1) (fun h=>h.elim (fun h=>.inr (by have:=h.1;omega)) (fun h=>.inr J)),hb.2⟩,HO.o⟩;exact Jv
    ·have aU:=Z (show E5 n k x++(L.take j).map ((x:Int):: ·)=E5 n k (x+1)from by rw[Gc,m8.o,A9 J]);have iw:Below w.heap.size w wi:=eU.trans (Ho.o.below J fun b hb=>hb.1);go_wp2;go_roundw;exact⟨x+1,J,by go_num,by rw[←aU.o];exact(Ab (Ab A8)).mono (fun b hb=>⟨(HS.o b hb).1.elim (fun h=>h.1) (fun h=>by omega),(HS.o b hb).2⟩) Hs.o,iw⟩;exact Jv
   ·have li:decide (k≥(x:Int))=false:=decide_eq_false f4;have xW:decide ((x:Int)≤k)=false:=decide_eq_false f4;have m8:=Z (show E5 n k (x+1)=E5 n k x from by rw[Gc];unfold Jy;rw[if_neg f4,List.append_nil]);go_wp2;go_roundw;exact⟨x+1,J,by go_num,by rw[m8.o];exact aC.o,aA⟩;exact Jv
  ·have e:x=2:=J;subst e;go_wp2
   go_ret
   exact⟨_,rfl,by rw[←kf.o];exact aC.o,aA⟩
theorem N8{c:Int}(hc:cols[k]? =some c)(hx:row[k]? =some x):(By cols row)[k]? =some (c-x):=by
 unfold By;rw[List.getElem?_zipWith,hc,hx]
theorem YE(hl:row.length=cols.length){c:Int}(hc:cols[k]? =some c)(hx:row[k]? =some x)(h:c<x):EB cols row=false:=by
 rw[Bool.eq_false_iff];intro hf;have hk:=(A5.1 hc).1;have:=(Hj hl).1 hf k hk;rw[B7 (N8 hc hx)]at this;omega
theorem XY(hl:row.length=cols.length)(h:∀j,j<cols.length→0≤(By cols row).getD j 0):EB cols row=true:=(Hj hl).2 h
def Lt(cols row:U):U:=if EB cols row then By cols row else[]
theorem A1H(v v2:Value)(cols row:U)(w:World)(hv:Au w v cols)(aS:Au w v2 row)(hl:row.length=cols.length)(h5:cols.length≤5)(hc5:∀x∈cols,0≤x∧x≤5)(hr1:∀x∈row,0≤x∧x≤1):
  Calls prog 255 #[v,v2] w fun e w'=>∃v',e=.returned (.tuple #[v',.bool (EB cols row)])∧Ag 3 Ap (Iv w.heap.size w'.heap.size) w' v' (Lt cols row)∧Below w.heap.size w w':=by
 obtain⟨a,cap,rfl,-,cJ,-,hc⟩:=hv;obtain⟨a2,cap2,rfl,-,hle2,-,cM⟩:=aS;have Hl:=Z hl;have Hc5:=Z hc5;have kZ:=Z hr1;clear hl hc5 hr1;go_enter func255,ntmps255;go_wp2;go_loopw [6,12] (fun v i wr=>∃k:Nat,k≤cols.length∧i=.int .i64 k∧Hid (Ag 3 Ap (Iv w.heap.size wr.heap.size) wr v ((By cols row).take k))∧Hid (∀j,j<k→0≤(By cols row).getD j 0)∧Below w.heap.size w wr) (fun _ i _=>cols.length-(intOf i).toNat);exact⟨0,A7 _,rfl,by rw[List.take_zero];exact BK _ _ _ A8,(by intro j hj;omega),Below.qab _ _⟩;obtain⟨k,hk,rfl,aC,Hpos,aA⟩:=hrel;have bD:=aA.size;by_cases aF:k<cols.length
 ·obtain⟨b,off,rfl,hb,cP⟩:=hc J;obtain⟨b2,off2,rfl,af,iP⟩:=cM (by rw[Hl.o];omega);obtain⟨c,fK⟩:∃c,cols[k]? =some c:=⟨_,A3 aF⟩;obtain⟨x,hx⟩:∃x,row[k]? =some x:=⟨_,A3 (by rw[Hl.o];exact aF)⟩;obtain⟨u,aW,rfl,-⟩:=cP k c fK;obtain⟨u2,dw,rfl,-⟩:=iP k x hx;rw[←aA.cell (p:=⟨b,off+k,none⟩) hb]at aW;rw[←aA.cell (p:=⟨b2,off2+k,none⟩) af]at dw;have aj:(k:Int)<(row.length:Int):=by have:=Hl.o;omega
  have hrl2:k<row.length:=by have:=Hl.o;omega
  obtain⟨bZ,hc9⟩:=Hc5.o c (A4 fK);obtain⟨eR,hx9⟩:=kZ.o x (A4 hx);by_cases ah:c<x
  ·have hd:decide (c<x)=true:=decide_eq_true ah;have Hf:=Z (YE Hl.o fK hx ah);have He:=Z (show Lt cols row=[]from by unfold Lt;rw[Hf.o];rfl);clear fK hx cP iP hc cM ah;go_wp2
   go_ret2
   exact⟨_,by rw[Hf.o];rfl,by rw[He.o];exact Ag.nil _ _ _ _,aA⟩
  ·have hd:decide (c<x)=false:=decide_eq_false ah;have Hn:=Z (N8 fK hx);have au:((By cols row).take k).length<1099511627776:=by rw[At];omega
   have aG:=Z (show(By cols row).take (k+1)=(By cols row).take k++[c-x]from by rw[Ao,Hn.o];rfl);have uE:=Z (show ∀j,j<k+1→0≤(By cols row).getD j 0 from by
    intro j hj;by_cases e:j=k
    ·rw[e,B7 Hn.o];omega
    ·exact Hpos.o j J)
   have hI:Cc (c-x):=Cc.small J J;clear fK hx cP iP hc cM ah Hpos;go_wp2_with (first|(at_builtin;(refine AH rfl _ _ 32 rfl A8 3 underlying32 Bg rfl Jq w.heap.size wr.heap.size bD (A2 _) rfl rfl (by exact aC.o) (by exact⟨rfl,hI⟩) au ?_);intro v2 w2 hown2 hbel2 _)|fail);have dg:=aA.trans hbel2;have aX:=Z hown2;clear hown2 aC;go_wp2;go_roundw;exact⟨k+1,J,by go_num,by rw[aG.o];exact aX.o,uE,dg⟩;exact Jv
 ·have Hf:=Z (XY Hl.o fun j hj=>Hpos.o j J);have He:=Z (show(By cols row).take k=Lt cols row from by unfold Lt;rw[Hf.o,if_pos rfl,A9 (by rw[Fi Hl.o];omega)]);go_wp2
  go_ret2
  exact⟨_,by rw[Hf.o];rfl,by rw[←He.o];exact aC.o,aA⟩
theorem Sl.tail{S:Bk}{b off n:Nat}{x:α}{xs:List α}(h:Sl R S w (.slice (some ⟨b,off,none⟩) n c) (x::xs)):Sl R S w (.slice (if c=1 then some ⟨b,off,none⟩else some ⟨b,off+1,none⟩) xs.length (c-1)) xs:=by
 obtain⟨a',cap',he,h1,h2,h3,h4⟩:=h;simp only[Value.slice.injEq]at he;obtain⟨rfl,hn,rfl⟩:=he;rw[An]at h1 h2;refine⟨_,_,rfl,J,J,(fun h=>by split at h<;>cases h),fun h0=>?_⟩;rw[if_neg J];obtain⟨b',off',he,hb,hc⟩:=h4 (by rw[An];omega);simp only[Option.some.injEq,Addr.mk.injEq,and_true]at he;obtain⟨rfl,rfl⟩:=he;refine⟨b,off+1,rfl,hb,fun k y hk=>?_⟩;obtain⟨u,hu,hr⟩:=hc (k+1) y (by simpa using hk);exact⟨u,by rw[show off+1+k=off+(k+1) by omega];exact hu,hr⟩
def Ol(rows cols row:U):List I:=if EB cols row&&EO rows (By cols row)then(BP rows (By cols row)).map (row:: ·)else[]
def F4(rows cols:U)(L:I)(k:Nat):List I:=(L.take k).flatMap (Ol rows cols)
theorem Xc(rows cols:U)(L:I):F4 rows cols L 0=[]:=by simp[F4]
theorem Md{l:U}(h:L[k]? =some l):F4 rows cols L (k+1)=F4 rows cols L k++Ol rows cols l:=by
 unfold F4;rw[Ao,h,List.flatMap_append];simp
theorem ZT(hL:L=Cl cols.length r)(hk:L.length≤k):F4 rows cols L k=BP (r::rows) cols:=by
 unfold F4;rw[A9 hk,hL];rfl
theorem Ka(g:α→List β):∀(L:List α)(k:Nat),((L.take k).flatMap g).length≤(L.flatMap g).length
 |[],k=>by simp
 |a::L,0=>by simp
 |a::L,k+1=>by
  rw[List.take_succ_cons,List.flatMap_cons,List.flatMap_cons,Ad,Ad];have:=Ka g L k;omega
theorem A03(hL:L=Cl cols.length r):(F4 rows cols L k).length≤(BP (r::rows) cols).length:=by
 have:=Ka (Ol rows cols) L k;rw[hL]at this;rw[hL];exact this
theorem A2U(h:(EB cols row&&EO rows (By cols row))=false):Ol rows cols row=[]:=by unfold Ol;rw[h];rfl
theorem A0R(h:(EB cols row&&EO rows (By cols row))=true)(done:I):(Ol rows cols row).map (done++ ·)=(BP rows (By cols row)).map ((done++[row])++ ·):=by
 unfold Ol;rw[h,if_pos rfl,List.map_map];exact List.map_congr_left fun m _=>by simp
theorem A1E(h:(EB cols row&&EO rows (By cols row))=true):(Ol rows cols row).length=(BP rows (By cols row)).length:=by
 unfold Ol;rw[h,if_pos rfl,Ay]
theorem Q6(hl:row.length=cols.length)(hc5:∀x∈cols,0≤x∧x≤5)(hr1:∀x∈row,0≤x∧x≤1)(hf:EB cols row=true):∀x∈By cols row,0≤x∧x≤5:=by
 intro x hx;obtain⟨j,hj,rfl⟩:=List.getElem_of_mem hx;have iO:j<cols.length:=by rw[←Fi hl];exact hj
 have h1:=(Hj hl).1 hf j iO;have h2:=Ib hl iO;rw[B7 (A3 hj)]at h1 h2;have h3:=hc5 cols[j] (List.getElem_mem iO);have h4:=hr1 row[j] (List.getElem_mem J);rw[B7 (A3 iO),B7 (A3 J)]at h2;omega
theorem A3w{xs:U}(h:∀x∈xs,0≤x∧x≤5)(hl:xs.length≤5):IP xs:=⟨J,fun x hx=>by have:=h x hx;omega⟩
theorem ZU:(Tryz.prog.info? 31).map (fun i=>(i.zero,i.size,i.bytes))=some (some (.slice none 0 0),1,24):=by kernel_rfl
def A4A(S:Bk)(w:World)(out:List I)(e:Ending)(w':World):Prop:=
 ∃v' S',e=.returned v'∧Ag 31 (Ag 32 (Ag 3 Ap)) S' w' v' out∧(∀b,S' b→(S b∨w.heap.size≤b)∧b<w'.heap.size)∧AO S w w'
theorem Pj:∀(xs ys:U)(vo vd vr vc:Value)(done:I)(S:Bk)(out:List I)(w:World),xs.length≤5→1≤ys.length→ys.length≤5→(∀x∈xs,0≤x∧x≤5)→(∀y∈ys,0≤y∧y≤5)→
  (∀b,S b→b<w.heap.size)→Ag 31 (Ag 32 (Ag 3 Ap)) S w vo out→Sl (Sl Ap) (fun b=>b<w.heap.size∧¬S b) w vd done→Sl Ap (fun b=>b<w.heap.size∧¬S b) w vr xs→Sl Ap (fun b=>b<w.heap.size∧¬S b) w vc ys→
  done.length+xs.length≤5→(∀row∈done,row.length≤5)→out.length+(BP xs ys).length≤1099511627775→
  Calls prog 187 #[vo,vd,vr,vc] w (A4A S w (out++(BP xs ys).map (done++ ·))):=by
 intro xs;induction xs with
 |nil=>
  intro ys vo vd vr vc done S out w jU dU kq fq fj hS ho hd hr hc tq hdr bR;have Hd:=Z hd;obtain⟨ad,cd,rfl,-⟩:=id hd;obtain⟨ar,cr,rfl,-⟩:=hr;obtain⟨ac,cc,rfl,-⟩:=hc;have HS:=Z hS;have eZ:=Z ho;have dT:=Z bR;have bF:done.length≤1048576:=J;have HR:=Z (show ∀p∈done,p.length≤1048576 from fun p hp=>by have:=hdr p hp;omega);have nX:=Z (show AI w _ done from(Cd (Cd A8)).mono (fun b hb=>hb.1) hd);have fg:out.length<1099511627776:=Nat.lt_of_le_of_lt (Aj (Nat.le_add_right _ _) dT.o) Jq;have iZ:=Z (show(BP [] ys).map (done++ ·)=[done]from by simp[BP]);obtain⟨o1,o2,o3,rfl⟩:=ho.shape;clear hd hS ho bR hdr fq fj;go_enter func187,ntmps187;go_wp2_with fail;refine(D5 _ done _ (by exact nX.o) bF HR.o).mono ?_;rintro e w4 ⟨v4,rfl,o4,b4⟩;obtain⟨r1,r2,r3,rfl⟩:=o4.shape;have l7:=b4.size;have eN:=Z b4;have fQ:=Z o4;have fO:=Z (Below.qab w4 (.cells #[.slice r1 r2 r3] 31));have Hk:=Z (B9.new w4 #[.slice r1 r2 r3] 31);have m9:=Z ((Ab (Ab (Ab A8))).same (Ac (eN.o.qaa fO.o (A2 _)) fun b hb=>HS.o b hb) eZ.o);have zS:=Z ((Ab (Ab A8)).same (Ac fO.o fun b hb=>hb.2) fQ.o);have fG:(w4.alloc (.cells #[.slice r1 r2 r3] 31)).heap.size=w4.heap.size+1:=Jj;have qr:=Z fG;clear o4 b4 fG;go_wp2_with (first|(at_builtin;refine F6 rfl _ _ 77 rfl (Ab (Ab A8)) 31 underlying77 ZU rfl Jq S (Iv w.heap.size w4.heap.size) rfl rfl (by exact Hk.o.cell 0) (by exact m9.o) (by exact zS.o) (fun b h1 h2=>by have:=HS.o b h1;have:=h2.1;omega) (fun b h1=>by have:=HS.o b h1;have:=qr.o;omega) (fun b h1=>by have:=h1.2;have:=qr.o;omega) fg ?_;intro v6 w6 o6 h6;obtain⟨x1,x2,x3,rfl⟩:=o6.shape)|fail);have lB:=Z o6;have H6:=Z h6;clear o6 h6;go_wp2
  go_ret
  refine⟨_,_,rfl,by rw[iZ.o];exact lB.o,fun b hb=>?_,?_⟩
  ·refine⟨?_,hb.2⟩;rcases hb.1 with h|h|h
   ·exact .inl h
   ·exact .inr h.1
   ·exact .inr (by have:=qr.o;omega)
  ·have h1:AO S w (w4.alloc (.cells #[.slice r1 r2 r3] 31)):=AO.qaj (eN.o.qaa fO.o (A2 _)) S;exact h1.qai (H6.o.mono fun b hb _=>.inl (m9.o.qae b hb))
 |cons r xs ih=>
  intro ys vo vd vr vc done S out w jU dU kq fq fj hS ho hd hr hc tq hdr bR;have IH:=Z ih;have Hd:=Z hd;have Hr:=Z hr;have Hc:=Z hc;obtain⟨ad,cd,rfl,-⟩:=id hd;obtain⟨br,offr,cr,rfl,hbr0,it⟩:=hr.qac Jj;obtain⟨ac,cc,rfl,-⟩:=id hc;obtain⟨u,aW,hu⟩:=Sl.at hr (k:=0) (x:=r) rfl;obtain⟨rfl,-⟩:=hu;rw[AF]at aW;have eE:=fq r Jj;have Hxb:=Z (fun x (hx:x∈xs)=>fq x (AL _ hx));have zT:=Z fj;have HS:=Z hS;have eZ:=Z ho;have dT:=Z bR;have sN:=Z hdr;have hx4:xs.length≤4:=by simpa using jU
  have aj:(r::xs).length=xs.length+1:=rfl;rw[aj]at it tq⊢;obtain⟨L,hL⟩:∃L,L=Cl ys.length r:=⟨_,rfl⟩;have HL:=Z hL;have m7:L.length≤32:=by rw[hL];exact O8 kq _
  have aK:(((xs.length+1:Nat):Int)==0)=false:=by rw[Ai];omega
  obtain⟨o1,o2,o3,rfl⟩:=ho.shape;obtain⟨nx,hnx⟩:∃nx:Nat,nx=xs.length+1:=⟨_,rfl⟩;rw[←hnx]at aK it⊢;have lS:=Z hnx;have hnx0:0<nx:=J;clear ih hd hr hc fq fj hS ho bR hdr hL aj jU hnx;go_enter func187,ntmps187;go_wp2_with fail;refine(A15 ys.length r _ kq J J).mono ?_;rintro e wl ⟨vl,rfl,ol,bl⟩;rw[←HL.o]at ol;obtain⟨aL,cL,rfl,-⟩:=id ol.qag;have oC:=bl.size;have iH:=Z ol;have ny:=Z bl;have qq:L.length≤9223372036854775807:=J;clear ol;go_wp2;go_loopw [0,28] (fun v i wr=>∃k:Nat,k≤L.length∧i=.int .i64 k∧∃S',Hid (Ag 31 (Ag 32 (Ag 3 Ap)) S' wr v (out++(F4 xs ys L k).map (done++ ·)))∧Hid (∀b,S' b→(S b∨wl.heap.size≤b)∧b<wr.heap.size)∧Hid (AO S wl wr)) (fun _ i _=>L.length-(intOf i).toNat);exact⟨0,A7 _,rfl,S,by rw[Xc,List.map_nil,List.append_nil];exact(Ab (Ab (Ab A8))).same (Ac ny.o fun b hb=>HS.o b hb) eZ.o,fun b hb=>⟨.inl hb,by have:=HS.o b hb;omega⟩,AO.refl _ _⟩;obtain⟨k,hk,rfl,S',Hs,HS',Ho⟩:=hrel;obtain⟨wo,rfl⟩:∃wo:World,wo=wr:=⟨_,rfl⟩;have xX:=Ho.o.size;obtain⟨s1,s2,s3,rfl⟩:=Hs.o.shape;by_cases hltk:k<L.length
  ·obtain⟨l,hl⟩:∃l,L[k]? =some l:=⟨_,A3 hltk⟩;obtain⟨gL,capL,heL,-⟩:=iH.o.qac J;simp only[Value.slice.injEq,true_and]at heL;obtain⟨rfl,cP⟩:=heL;subst cP;have gF:Ag 32 (Ag 3 Ap) (Iv w.heap.size wl.heap.size) wo (.slice (some ⟨gL,0,none⟩) L.length cL) L:=(Ab (Ab A8)).same (fun b hb=>Ho.o.block b hb.2 fun h=>by have:=HS.o b h;have:=hb.1;omega) iH.o;obtain⟨-,-,-,-,T,uk,aH,eH,hT,-⟩:=gF.qal (Ab A8) hl;obtain⟨y1,y2,y3,rfl⟩:=eH.shape;obtain rfl:=eH.ints.len;have cj:=G6.1 (by have h:=A4 hl;rw[HL.o]at h;exact h);have dQ:=Z cj;have dh:=Z eH;have HT:=Z hT;have Hl:=Z hl;have HK:Hid (∀W,Below wo.heap.size wo W→Jb (fun b=>b<w.heap.size∧¬S b) w W):=fun W hW b hb=>(hW.block b (by have:=hb.1;omega)).trans ((Ho.o.block b (by have:=hb.1;omega) hb.2).trans (ny.o.block b hb.1));have HcO:=Z ((Cd A8).same (HK.o wo (A6 _ _)) Hc.o);have pN:=Z (show Au wo (.slice ac ys.length cc) ys from(Cd A8).mono (fun b hb=>by have:=hb.1;show b<wo.heap.size;omega) HcO.o);have zU:=eH.ints;clear gF eH hT hl cj;go_wp2_with fail;refine(A1H _ _ ys l _ pN.o zU dQ.o.1 kq zT.o dQ.o.2.1).mono ?_;rintro e w1 ⟨v1,rfl,o1',b1⟩;obtain⟨lv1,lv2,lv3,rfl⟩:=o1'.shape;obtain⟨ok,hok⟩:∃ok,ok=EB ys l:=⟨_,rfl⟩;rw[←hok];have aR:=Z hok;have oD:=Z o1';have B1:=Z b1;have cQ:=b1.size;have HlI1:=Z (zU.keep b1);have eT:=Z (Fi dQ.o.1);have HrT:=Z (show Sl Ap (fun b=>b<w.heap.size∧¬S b) w (.slice (if cr=1 then some ⟨br,offr,none⟩else some ⟨br,offr+1,none⟩) (nx-1) (cr-1)) xs from by
    have h:=Hr.o.tail;rw[show xs.length=nx-1 from by have:=lS.o;omega]at h;exact h)
   obtain⟨left,hleft⟩:∃left,left=By ys l:=⟨_,rfl⟩;rw[←hleft]at eT;have fA:=Z hleft;clear aH zU b1 hok o1' hleft
   go_upto_region 7 with(fail)
   go_cut [59] (fun s59 wx=>s59=.bool (ok&&EO xs left)∧Hid (Below w1.heap.size w1 wx))
   case first=>
    cases ok
    ·go_wp2
     go_meet
     exact⟨rfl,A6 _ _⟩
    ·have gx:=oD.o;have hf:=aR.o.symm;unfold Lt at gx;rw[hf,if_pos rfl,←fA.o]at gx;have ff:=gx.ints.len;subst ff;have xY:=Z gx.ints;have mS:=Z (show IP left from by rw[fA.o];exact A3w (Q6 dQ.o.1 zT.o dQ.o.2.1 hf) (by rw[←fA.o,eT.o];exact kq));clear gx hf;by_cases eR:xs.length=0
     ·have dK:((nx:Int)==1)=true:=by rw[beq_iff_eq];have:=lS.o;omega
      have Hg:=Z (show EO xs left=decide (AP left=0)from by unfold EO;rw[if_pos eR]);have uF:decide ((nx:Int)>1)=false:=by rw[decide_eq_false_iff_not];have:=lS.o;omega
      have zV:decide ((1:Int)<nx)=false:=by rw[decide_eq_false_iff_not];have:=lS.o;omega
      clear eR;obtain⟨z,hz⟩:∃z,z=AP left:=⟨_,rfl⟩;rw[←hz]at Hg;have Hz:=Z hz;clear hz;by_cases i6:z=0
      ·have af:(z==0)=true:=by rw[beq_iff_eq];exact i6
       have zW:=Z (show EO xs left=true from by rw[Hg.o];simp[i6]);clear i6;go_wp2_with (first|(go_at_call 256;refine(GA _ _ _ (by exact xY.o) mS.o).mono ?_;rintro e w' ⟨rfl,rfl⟩;rw[←Hz.o]))
       go_meet
       exact⟨by rw[zW.o];rfl,A6 _ _⟩
      ·have af:(z==0)=false:=by rw[Ai];exact i6
       have zW:=Z (show EO xs left=false from by rw[Hg.o];simp[i6]);clear i6;go_wp2_with (first|(go_at_call 256;refine(GA _ _ _ (by exact xY.o) mS.o).mono ?_;rintro e w' ⟨rfl,rfl⟩;rw[←Hz.o]))
       go_meet
       exact⟨by rw[zW.o];rfl,A6 _ _⟩
     ·have dK:((nx:Int)==1)=false:=by rw[Ai];have:=lS.o;omega
      have Hg:=Z (show EO xs left=BF xs left from by unfold EO;rw[if_neg eR]);have uF:decide ((nx:Int)>1)=true:=by rw[Ah];have:=lS.o;omega
      have zV:decide ((1:Int)<nx)=true:=by rw[Ah];have:=lS.o;omega
      have zX:¬cr=1:=by have:=lS.o;omega
      have hnx3:1<nx:=by have:=lS.o;omega
      clear eR;have oA:=Z (show Au w1 (.slice (some ⟨br,offr+1,none⟩) (nx-1) (cr-1)) xs from by
       have h:=(Cd A8).same (HK.o w1 B1.o) HrT.o;rw[if_neg zX]at h;exact(Cd A8).mono (fun b hb=>by have:=hb.1;show b<w1.heap.size;omega) h)
      have HT2:=Z (show nx-1=xs.length from by have:=lS.o;omega);cases bK:BF xs left
      ·have dk:=Z bK;clear bK;go_wp2_with (first|(go_at_call 185;refine(DB _ _ xs left _ (by exact oA.o) (by exact xY.o)).mono ?_;rintro e wx ⟨rfl,bx⟩;rw[dk.o]))
       go_meet
       exact⟨by rw[Hg.o,dk.o];rfl,bx⟩
      ·have dk:=Z bK;clear bK;go_wp2_with (first|(go_at_call 185;refine(DB _ _ xs left _ (by exact oA.o) (by exact xY.o)).mono ?_;rintro e wx ⟨rfl,bx⟩;rw[dk.o]))
       go_meet
       exact⟨by rw[Hg.o,dk.o];rfl,bx⟩
   case rest=>
    obtain⟨rfl,HbX⟩:=hcut;obtain⟨wx,rfl⟩:∃wx,wx=wc:=⟨_,rfl⟩;have kV:=HbX.o.size;have pU:=Z (B1.o.qaa HbX.o (A2 _));have xG:=pU.o.size;obtain⟨zY,hcnd⟩:∃zY,zY=(ok&&EO xs left):=⟨_,rfl⟩;rw[←hcnd];cases zY
    ·have fW:=Z (show F4 xs ys L (k+1)=F4 xs ys L k from by
      rw[Md Hl.o,A2U,List.append_nil];rw[←fA.o,←aR.o];exact hcnd.symm)
     clear hcnd;go_wp2;go_roundw;exact⟨k+1,J,by go_num,S',by rw[fW.o];exact(Ab (Ab (Ab A8))).same (Ac pU.o fun b hb=>(HS'.o b hb).2) Hs.o,fun b hb=>⟨(HS'.o b hb).1,Aa (HS'.o b hb).2 xG⟩,Ho.o.qai (AO.qaj pU.o _)⟩;exact Jv
    have hok:ok=true:=by cases ok;simp at hcnd;rfl
    have xZ:EO xs left=true:=by rw[hok]at hcnd;exact hcnd.symm
    have kD:=Z (show(EB ys l&&EO xs (By ys l))=true from by rw[←fA.o,←aR.o,hok,xZ];rfl);have gx:Ag 3 Ap (Iv wo.heap.size w1.heap.size) w1 (.slice lv1 lv2 lv3) left:=by
     have h:=oD.o;unfold Lt at h;rwa[show EB ys l=true from by rw[←aR.o];exact hok,if_pos rfl,←fA.o]at h
    have ff:=gx.ints.len;subst ff;have Hlv:=Z gx;have fb:=Z (show ∀y∈left,0≤y∧y≤5 from by rw[fA.o];exact Q6 dQ.o.1 zT.o dQ.o.2.1 (by rw[←aR.o];exact hok));have zZ:1≤left.length:=by rw[eT.o];exact dU
    have ze:left.length≤5:=by rw[eT.o];exact kq
    subst hok;clear hcnd xZ gx;have bF:done.length≤1048576:=J;have HR:=Z (show ∀p∈done,p.length≤1048576 from fun p hp=>by have:=sN.o p hp;omega);have uG:=Z (show ∀W,Below wx.heap.size wx W→AI W _ done from fun W hW=>(Cd (Cd A8)).mono (fun b hb=>by have:=hb.1;have:=hW.size;show b<W.heap.size;omega) ((Cd (Cd A8)).same (HK.o W (pU.o.qaa hW (A2 _))) Hd.o));have xE:=Z (show ∀W,Below wx.heap.size wx W→Sl Ap (fun b=>b<W.heap.size∧¬S' b) W (.slice (if cr=1 then some ⟨br,offr,none⟩else some ⟨br,offr+1,none⟩) (nx-1) (cr-1)) xs from fun W hW=>(Cd A8).mono (fun b hb=>⟨by have:=hb.1;have:=hW.size;omega,fun h=>(HS'.o b h).1.elim hb.2 (fun h2=>by have:=hb.1;omega)⟩) ((Cd A8).same (HK.o W (pU.o.qaa hW (A2 _))) HrT.o));have Hvc:=Z (show ∀W,Below wx.heap.size wx W→Sl Ap (fun b=>b<W.heap.size∧¬S' b) W (.slice lv1 left.length lv3) left from fun W hW=>(Cd A8).mono (fun b hb=>⟨by have:=hb.2;have:=hW.size;omega,fun h=>by have:=(HS'.o b h).2;have:=hb.1;omega⟩) ((Cd A8).same (Ac (HbX.o.qaa hW (A2 _)) fun b hb=>hb.2) (Hlv.o.sl (fun _ _ _ _ h=>h) A8)));have tE:=Z (show ∀W,Below wx.heap.size wx W→Ag 31 (Ag 32 (Ag 3 Ap)) S' W (.slice s1 s2 s3) (out++(F4 xs ys L k).map (done++ ·))from fun W hW=>(Ab (Ab (Ab A8))).same (Ac (pU.o.qaa hW (A2 _)) fun b hb=>(HS'.o b hb).2) Hs.o);have HrX:=Z ((Ab A8).same (Ac pU.o fun b hb=>by have:=(HT.o b hb).1.2;omega) dh.o);have zg:(done++[l]).length+xs.length≤5:=by rw[Ad,List.length_singleton];omega
    have zh:=Z (show ∀row∈done++[l],row.length≤5 from fun row aD=>by
     rcases List.mem_append.1 aD with h|h
     ·exact sN.o row h
     ·rw[List.mem_singleton]at h;rw[h,dQ.o.1];exact kq)
    have ma:=Z (show(out++(F4 xs ys L k).map (done++ ·)).length+(BP xs left).length≤1099511627775 from by
     have h1:=A03 (r:=r) (rows:=xs) (cols:=ys) (k:=k+1) HL.o;rw[Md Hl.o,Ad,A1E kD.o,←fA.o]at h1;have h2:=dT.o;rw[Ad,Ay];omega)
    have uH:=Z (show ∀b,S' b→¬T b from fun b h1 h2=>by
     have h3:=(HT.o b h2).1;have h4:=h3.1;have h5:=h3.2;rcases(HS'.o b h1).1 with h|h
     ·have:=HS.o b h;omega
     ·omega)
    have fp:done.length<1099511627776:=J;have bn:=Z (Below.qab wx (.cells #[.slice y1 l.length y3] 32));have gf:=Z (B9.new wx #[.slice y1 l.length y3] 32);have kE:=Z (show out++(F4 xs ys L (k+1)).map (done++ ·)=(out++(F4 xs ys L k).map (done++ ·))++(BP xs left).map ((done++[l])++ ·)from by
     rw[Md Hl.o,List.map_append,A0R kD.o,←fA.o,List.append_assoc])
    have uF:(1:Int)≤nx:=J;go_wp2
    go_region_law (first
     |(refine J2 (w:=w5.alloc (.cells #[.slice y1 l.length y3] 32)) (v:=.slice r1 r2 r3) (u:=.slice y1 l.length y3) (x:=l) (gb:=w5.heap.size) (c:=1) rfl (.tmp 62) (.tmp 64) 31 rfl (Ab A8) 32 underlying31 Ku rfl Jq (Iv wx.heap.size w5.heap.size) T (by simp[Act.eval]) (by simp[Act.eval]) (by exact(B9.new w5 #[.slice y1 l.length y3] 32).cell 0) (by exact uI.o) (by exact uJ.o) (fun b h1 h2=>by have:=h1.1;have:=(HT.o b h2).1.2;omega) (fun b h1=>Aa h1.2 lz.o.size) (fun b h1=>Aa (by have:=(HT.o b h1).1.2;omega:b<w5.heap.size) lz.o.size) fp ?_;intro v3 w3 o3 h3;obtain⟨z1,z2,z3,rfl⟩:=o3.shape;have mb:Below wx.heap.size w5 w3:=(lz.o.mono sT).trans (h3.below (Aj sT lz.o.size) (fun b hb=>(ge.o.qae b hb).1));have B3:=Z (oE.o.trans mb);have jw:=B3.o.size;have HX:=Z (Aj sT lz.o.size);have H3:=Z o3;have uK:=Z (show Sl (Sl Ap) (fun b=>b<w3.heap.size∧¬S' b) w3 (.slice z1 z2 z3) (done++[l])from(Cd (Cd A8)).mono (fun b hb=>⟨hb.2,fun h=>(hb.1.elim (fun h1=>by have:=h1.1;have:=(HS'.o b h).2;omega) (fun h1=>h1.elim (fun h1=>uH.o b h h1) (fun h1=>by have:=(HS'.o b h).2;have:=HX.o;omega)))⟩) (H3.o.sl (fun _ _ _ _ h=>h.sl (fun _ _ _ _ h=>h) A8) (Cd A8)));clear o3 h3 mb)
     |(refine J2 (w:=w5) (v:=.slice r1 r2 r3) (u:=.slice y1 l.length y3) (x:=l) (gb:=wx.heap.size) (c:=1) rfl (.tmp 62) (.tmp 64) 31 rfl (Ab A8) 32 underlying31 Ku rfl Jq (Iv wx.heap.size w5.heap.size) T (by simp[Act.eval]) (by simp[Act.eval]) (by exact jC.o.cell 0) (by exact ge.o) (by exact x6.o) (fun b h1 h2=>by have:=h1.1;have:=(HT.o b h2).1.2;omega) (fun b h1=>h1.2) (fun b h1=>by have:=(HT.o b h1).1.2;omega) fp ?_;intro v3 w3 o3 h3;obtain⟨z1,z2,z3,rfl⟩:=o3.shape;have mb:Below wx.heap.size w5 w3:=h3.below sT (fun b hb=>(ge.o.qae b hb).1);have B3:=Z (oE.o.trans mb);have jw:=B3.o.size;have HX:=Z (sT);have H3:=Z o3;have uK:=Z (show Sl (Sl Ap) (fun b=>b<w3.heap.size∧¬S' b) w3 (.slice z1 z2 z3) (done++[l])from(Cd (Cd A8)).mono (fun b hb=>⟨hb.2,fun h=>(hb.1.elim (fun h1=>by have:=h1.1;have:=(HS'.o b h).2;omega) (fun h1=>h1.elim (fun h1=>uH.o b h h1) (fun h1=>by have:=(HS'.o b h).2;have:=HX.o;omega)))⟩) (H3.o.sl (fun _ _ _ _ h=>h.sl (fun _ _ _ _ h=>h) A8) (Cd A8)));clear o3 h3 mb)
     |(go_simp;go_at_call 122;refine(D5 _ done _ (uG.o _ (by exact⟨rfl,rfl,rfl,A2 _,fun _ _=>rfl⟩)) bF HR.o).mono ?_;rintro e w5 ⟨v5,rfl,o5,b1⟩;obtain⟨r1,r2,r3,rfl⟩:=o5.shape;have oE:=Z (show Below wx.heap.size wx w5 from⟨b1.os,b1.tape,b1.output,b1.size,b1.block⟩);have ge:=Z ((Ab (Ab A8)).mono (S':=Iv wx.heap.size w5.heap.size) (fun b hb=>⟨Aj (A2 _) hb.1,hb.2⟩) o5);have sT:=oE.o.size;have lz:=Z (Below.qab w5 (.cells #[.slice y1 l.length y3] 32));have x6:=Z ((Ab A8).same (Ac oE.o fun b hb=>by have:=(HT.o b hb).1.2;omega) HrX.o);have uI:=Z ((Ab (E:=32) (Ab (E:=3) A8)).same (Ac lz.o fun b hb=>hb.2) ge.o);have uJ:=Z ((Ab A8).same (Ac lz.o fun b hb=>by have:=(HT.o b hb).1.2;omega) x6.o);clear o5 b1)
     |(go_simp;go_at_call 122;refine(D5 _ done _ (uG.o _ (by exact⟨bn.o.os,bn.o.tape,bn.o.output,bn.o.size,bn.o.block⟩)) bF HR.o).mono ?_;rintro e w5 ⟨v5,rfl,o5,b1⟩;obtain⟨r1,r2,r3,rfl⟩:=o5.shape;have jC:=Z (show B9 w5 wx.heap.size #[.slice y1 l.length y3] 32 from gf.o.keep ⟨b1.os,b1.tape,b1.output,b1.size,b1.block⟩);have oE:=Z (show Below wx.heap.size wx w5 from bn.o.trans (Below.mono ⟨b1.os,b1.tape,b1.output,b1.size,b1.block⟩ bn.o.size));have ge:=Z ((Ab (Ab A8)).mono (S':=Iv wx.heap.size w5.heap.size) (fun b hb=>⟨Aj (bn.o.size) hb.1,hb.2⟩) o5);have sT:=oE.o.size;have lz:=Z (Below.qab w5 (.cells #[.slice y1 l.length y3] 32));have x6:=Z ((Ab A8).same (Ac oE.o fun b hb=>by have:=(HT.o b hb).1.2;omega) HrX.o);have uI:=Z ((Ab (E:=32) (Ab (E:=3) A8)).same (Ac lz.o fun b hb=>hb.2) ge.o);have uJ:=Z ((Ab A8).same (Ac lz.o fun b hb=>by have:=(HT.o b hb).1.2;omega) x6.o);clear o5 b1)
     |(go_simp;go_at_call 187;refine(IH.o left _ _ _ _ (done++[l]) S' (out++(F4 xs ys L k).map (done++ ·)) _ J zZ ze Hxb.o fb.o (fun b hb=>Aa (HS'.o b hb).2 (Aj xG jw)) (tE.o _ ⟨B3.o.os,B3.o.tape,B3.o.output,B3.o.size,B3.o.block⟩) uK.o (by exact xE.o _ ⟨B3.o.os,B3.o.tape,B3.o.output,B3.o.size,B3.o.block⟩) (by exact Hvc.o _ ⟨B3.o.os,B3.o.tape,B3.o.output,B3.o.size,B3.o.block⟩) zg zh.o ma.o).mono ?_;rintro e w4 ⟨v4,S4,rfl,o4,h4,O4⟩;obtain⟨t1,t2,t3,rfl⟩:=o4.shape;have fQ:=Z o4;have H4:=Z h4;have pV:=Z (show AO S' w3 w4 from⟨O4.os,O4.tape,O4.output,O4.size,O4.block⟩);clear o4 h4 O4))
    all_goals go_wp2
    all_goals go_roundw
    all_goals first
     |(simp[intOf];omega)
     |exact⟨k+1,J,by go_num,S4,by rw[kE.o];exact fQ.o,fun b hb=>⟨(H4.o b hb).1.elim (fun h=>(HS'.o b h).1) (fun h=>.inr J),(H4.o b hb).2⟩,(Ho.o.qai (AO.qaj (pU.o.qaa B3.o (A2 _)) _)).qai (pV.o.mono fun b hb _=>(HS'.o b hb).1)⟩
  ·have aU:=Z (show F4 xs ys L k=BP (r::xs) ys from ZT HL.o J);go_wp2
   go_ret
   exact⟨_,S',rfl,by rw[←aU.o];exact Hs.o,fun b hb=>⟨(HS'.o b hb).1.imp id (fun h=>by omega),(HS'.o b hb).2⟩,(AO.qaj ny.o S).qai (Ho.o.mono fun b hb _=>.inl hb)⟩
theorem OS{xs:U}(h:AT xs ys=true):(BB xs ys).length≤1073741824:=by
 obtain⟨-,h2,-,h4,-⟩:=BG h;refine Aj (JJ xs ys) ?_;have h5:xs.length*(ys.length+1)≤5*6:=Nat.mul_le_mul h2 J;exact Aj (Nat.pow_le_pow_right Jq h5) Jq
theorem D6{xs:U}(h:AT xs ys=true):Bt xs ys=BB xs ys:=by unfold Bt;rw[h];rfl
theorem GB{xs:U}(h:AT xs ys=false):Bt xs ys=[]:=by unfold Bt;rw[h];rfl
theorem I7{xs:U}(h:BF xs ys=false):Bt xs ys=[]:=by
 cases hok:AT xs ys
 ·exact GB hok
 ·rw[D6 hok];apply Classical.byContradiction;intro aK;rw[(OB hok).2 aK]at h;cases h
theorem HH{xs:U}(h:BF xs ys=true):Bt xs ys≠[]:=by
 have hok:=FL h;rw[D6 hok];exact(OB hok).1 h
theorem Eo(xs ys:U):(Bt xs ys).length≤1073741824:=by
 cases hok:AT xs ys
 ·rw[GB hok];simp
 ·rw[D6 hok];exact OS hok
theorem MF{xs:U}(h:AT xs ys=true):(∀x∈xs,0≤x∧x≤5)∧∀y∈ys,0≤y∧y≤5:=by
 obtain⟨a,b⟩:=GH h;obtain⟨-,h2,-,h4,-⟩:=BG h;constructor
 ·intro x hx;have:=Ar.1 a x hx;rw[Bz]at this;omega
 ·intro x hx;have:=Ar.1 b x hx;rw[Bz]at this;omega
theorem Jo(v v2:Value)(xs ys:U)(w:World)(hv:Au w v xs)(aS:Au w v2 ys):Calls prog 128 #[v,v2] w fun e w'=>∃vo,e=.returned (.tuple #[vo,.bool (AT xs ys)])∧Ag 31 (Ag 32 (Ag 3 Ap)) (Iv w.heap.size w'.heap.size) w' vo (Bt xs ys)∧Below w.heap.size w w':=by
 have Hv:=Z hv;have aY:=Z aS;obtain⟨a,cap,rfl,-⟩:=hv;obtain⟨a2,cap2,rfl,-⟩:=aS;cases hok:AT xs ys
 ·have Hr:=Z (GB hok);have aR:=Z hok;clear hok;go_enter func128,ntmps128;go_wp2_with fail;refine(EV _ _ _ _ _ Hv.o aY.o).mono ?_;rintro e w' ⟨rfl,rfl⟩;rw[aR.o];go_wp2
  go_ret2
  exact⟨_,rfl,by rw[Hr.o];exact Ag.nil _ _ _ _,A6 _ _⟩
 cases bK:BF xs ys
 ·have Hr:=Z (I7 bK);have aR:=Z hok;have dk:=Z bK;clear hok bK;go_enter func128,ntmps128;go_wp2_with fail;refine(EV _ _ _ _ _ Hv.o aY.o).mono ?_;rintro e w' ⟨rfl,rfl⟩;rw[aR.o];go_wp2_with fail;refine(DB _ _ _ _ _ Hv.o aY.o).mono ?_;rintro e w2 ⟨rfl,b2⟩;rw[dk.o];go_wp2
  go_ret2
  exact⟨_,rfl,by rw[Hr.o];exact Ag.nil _ _ _ _,b2⟩
 ·obtain⟨-,h2,h3,h4,-⟩:=BG hok;obtain⟨h5,h6⟩:=MF hok;have Hr:=Z (show Bt xs ys=BP xs ys from by rw[D6 hok,F2 hok]);have aN:=OS hok;rw[←F2 hok]at aN;have fP:=Z aN;have aR:=Z hok;have dk:=Z bK;clear hok bK aN;go_enter func128,ntmps128;go_wp2_with fail;refine(EV _ _ _ _ _ Hv.o aY.o).mono ?_;rintro e w' ⟨rfl,rfl⟩;rw[aR.o];go_wp2_with fail;refine(DB _ _ _ _ _ Hv.o aY.o).mono ?_;rintro e w2 ⟨rfl,b2⟩;rw[dk.o];have bG:=Z (Pj xs ys (.slice none 0 0) (.slice none 0 0) (.slice a xs.length cap) (.slice a2 ys.length cap2) [] (fun _=>False) [] w2 h2 h3 h4 h5 h6 (fun _ h=>h.elim) (Ag.nil _ _ _ _)
   ⟨none,0,rfl,Jj,Jj,fun _=>rfl,fun h=>by simp at h⟩ ((Cd A8).mono (fun b hb=>⟨hb,fun h=>h⟩) (Hv.o.keep b2)) ((Cd A8).mono (fun b hb=>⟨hb,fun h=>h⟩) (aY.o.keep b2)) (by simpa using h2) (fun row hr=>by cases hr) (by have:=fP.o;simp;omega))
  clear h5 h6;go_wp2_with fail;refine(bG.o).mono ?_;rintro e w3 ⟨v3,S3,rfl,o3,k8,O3⟩;obtain⟨t1,t2,t3,rfl⟩:=o3.shape;have cY:=Z o3;have lm:=Z k8;have uL:=Z O3;have hs2:=b2.size;clear o3 k8 O3 bG;go_wp2
  go_ret2
  refine⟨_,rfl,?_,b2.qaa (uL.o.below (A2 _) fun _ h=>h.elim) (A2 _)⟩;rw[Hr.o];have h:=cY.o;rw[List.nil_append,show(BP xs ys).map ([]++ ·)=BP xs ys from by simp]at h;exact(Ab (Ab (Ab A8))).mono (fun b hb=>⟨by have:=(lm.o b hb).1;simp at this;omega,(lm.o b hb).2⟩) h
def owr:U→Nat→U→U
 |xs,_,[]=>xs
 |xs,o,z::zs=>owr (xs.set o z) (o+1) zs
theorem A0f:∀(zs xs:U)(o i:Nat),o+zs.length≤xs.length→(owr xs o zs)[i]? =if o≤i∧i<o+zs.length then zs[i-o]? else xs[i]?
 |[],xs,o,i,_=>by rw[owr,if_neg (by rw[List.length_nil];omega)]
 |z::zs,xs,o,i,h=>by
  rw[An]at h;rw[owr,A0f zs (xs.set o z) (o+1) i (by rw[List.length_set];omega),An];by_cases h1:o+1≤i∧i<o+1+zs.length
  ·rw[if_pos h1,if_pos J,show i-o=(i-(o+1))+1 by omega];rfl
  ·rw[if_neg h1];by_cases h2:i=o
   ·subst h2;rw[if_pos J,Nat.sub_self,List.getElem?_set_self J];rfl
   ·rw[if_neg J,List.getElem?_set_ne J]
theorem A0q{xs zs:U}(h:zs.length=xs.length):owr xs 0 zs=zs:=by
 apply List.ext_getElem?;intro i;rw[A0f zs xs 0 i J];by_cases h1:i<zs.length
 ·rw[if_pos J,Nat.sub_zero]
 ·rw[if_neg J,Am J,Am J]
theorem Ag.qbm{E:TypeId}{S:Bk}{n cap:Nat}:∀(zs xs:U)(o:Nat)(w:World),Ag E Ap S w (.slice (some ⟨g,0,none⟩) n cap) xs→o+zs.length≤xs.length→(∀z∈zs,Cc z)→Ag E Ap S (w.setCells g o (zs.map (Value.int .i64))) (.slice (some ⟨g,0,none⟩) n cap) (owr xs o zs)
 |[],xs,o,w,h,_,_=>h
 |z::zs,xs,o,w,h,hl,hI=>by
  rw[An]at hl;exact Ag.qbm zs (xs.set o z) (o+1) (w.setCell ⟨g,o,none⟩ (.int .i64 z)) (h.qak J (hI z Jj)) (by rw[List.length_set];omega) (fun y hy=>hI y (AL _ hy))
theorem KL{S:Bk}{a:World}(hg:S g):∀(zs:List Value)(o:Nat)(w:World),AO S a w→AO S a (w.setCells g o zs)
 |[],_,_,h=>h
 |z::zs,o,w,h=>KL hg zs (o+1) (w.setCell ⟨g,o,none⟩ z) (h.setCell (.inl hg) z)
theorem JY(g:Nat):∀(zs:List Value)(o:Nat)(w:World),(w.setCells g o zs).heap.size=w.heap.size
 |[],_,_=>rfl
 |z::zs,o,w=>(JY g zs (o+1) (w.setCell ⟨g,o,none⟩ z)).trans (As _ _ _)
def Kq(xs:U):U:=xs.mergeSort (fun x y=>decide (x≤y))
theorem O6(xs:U):(Kq xs).Perm xs:=List.mergeSort_perm _ _
theorem PX(xs:U):(Kq xs).length=xs.length:=(O6 xs).length_eq
theorem Vp(xs:U):(Kq xs).Pairwise (fun a b=>a≤b):=by
 have h:=List.pairwise_mergeSort (le:=fun x y:Int=>decide (x≤y)) (fun a b c h1 h2=>by simp at*;omega) (fun a b=>by simp;omega) xs;exact h.imp fun h=>by simpa using h
open Go.Shelf Go.Lib Go.Sort in
theorem A4g(g cap:Nat)(xs:U)(S:Bk)(w:World)(aB:Ag 3 Ap S w (.slice (some ⟨g,0,none⟩) xs.length cap) xs)(hI:∀x∈xs,Cc x)(sM:xs.length<4611686018427387904):
  Calls prog 114 #[.slice (some ⟨g,0,none⟩) xs.length cap] w fun e w'=>e=.returned (.tuple #[])∧Ag 3 Ap (fun b=>S b∧b<w.heap.size) w' (.slice (some ⟨g,0,none⟩) xs.length cap) (Kq xs)∧AO (fun b=>b=g) w w':=by
 have hg:g<w.heap.size:=by
  rcases aB with⟨h,-⟩|⟨g',arr,he,-,hh,-⟩
  ·cases h
  ·simp only[Value.slice.injEq,Option.some.injEq,Addr.mk.injEq,and_true]at he;obtain⟨rfl,-⟩:=he;exact lt_of_block hh
 have hH:Holds (Value.int .i64) w g 0 xs.toArray:=by
  intro j hj;have iO:j<xs.length:=by simpa using hj
  obtain⟨h1,h2,-⟩:=aB.qaf (A3 iO);rw[Nat.zero_add];refine⟨?_,h2⟩;rw[h1,getElem!_pos _ j hj];simp
 have hS:=Tryz.slices_Sort_int g 0 cap xs w hH hg sM;refine hS.mono ?_;rintro e w' ⟨rfl,q,os,rfl⟩;refine⟨rfl,?_⟩;have e2:xs.mergeSort (fun x y=>decide (x≤y))=Kq xs:=rfl;have h1:=Ag.qbm (Kq xs) xs 0 (w.drewN q) (show Ag 3 Ap S (w.drewN q) _ xs from aB) (by rw[PX];omega) (fun z hz=>hI z ((O6 xs).mem_iff.1 hz));rw[A0q (by rw[PX])]at h1;have e3:=Lib.sorted_world (Value.int .i64) w g 0 q xs.toArray (Kq xs) os hH (by rw[PX];simp);rw[e2,e3];have hz:((w.drewN q).setCells g 0 ((Kq xs).map (Value.int .i64))).heap.size=w.heap.size:=JY _ _ _ _;have h2:=(Ab A8).inH h1;rw[hz]at h2;refine⟨(Ab A8).same (fun b hb=>heap_grow_old _ _ (by rw[hz];exact hb.2)) h2,?_⟩;have h3:=KL (S:=fun b=>b=g) (a:=w) rfl ((Kq xs).map (Value.int .i64)) 0 (w.drewN q) ((AO.refl _ w).drewN q);exact⟨h3.os,h3.tape,h3.output,by rw[size_grow,hz];omega,fun b hb hn=>(heap_grow_old _ _ (by rw[hz];exact hb)).trans (h3.block b hb hn)⟩
open Go.Shelf Go.Lib Go.Sort in
def cfD(x y:Int):Int:=Lib.compareInt y x
open Go.Shelf Go.Lib Go.Sort in
theorem ltD(x y:Int):ltOf cfD x y=decide (y<x):=by
 unfold ltOf cfD Lib.compareInt;by_cases h1:y<x
 ·simp[h1]
 ·by_cases h2:x<y<;>simp[h1,h2]
open Go.Shelf Go.Lib Go.Sort in
theorem A54:SWO (ltOf cfD) where
 irrefl x:=by rw[ltD];simp
 trans x y z h1 h2:=by rw[ltD]at*;simp at*;omega
 ntrans x y z h1 h2:=by rw[ltD]at*;simp at*;omega
open Go.Shelf Go.Lib Go.Sort in
theorem A55(x y:Int)(h1:ltOf cfD x y=false)(h2:ltOf cfD y x=false):x=y:=by rw[ltD]at*;simp at*;omega
open Go.Shelf Go.Lib Go.Sort in
theorem geD:(fun x y:Int=>!ltOf cfD y x)=fun x y=>decide (y≤x):=by
 funext x y
 rw[ltD];by_cases h:y≤x
 ·have h':¬x<y:=J;simp[h,h']
 ·have h':x<y:=J;simp[h,h']
open Go.Shelf Go.Lib Go.Sort in
theorem A2C(x y:Int)(W:World):Calls prog 225 #[.int .i64 x,.int .i64 y] W fun e w'=>e=.returned (.int .i64 (cfD x y))∧∃q,w'=W.drewN q:=by
 have qs:=AnyG.cmp_Compare_int Tryz.cmpL y x W;change Calls prog 226 _ _ _ at qs;unfold cfD;generalize Lib.compareInt y x=r at qs⊢;go_enter func225,ntmps225;go_wp2_with (go_at_call 226;refine qs.mono ?_;rintro e w' ⟨rfl,rfl⟩)
 go_ret
 exact⟨rfl,0,rfl⟩
open Go.Shelf Go.Lib Go.Sort in
theorem A1y(blk off size:Nat)(w:World):CmpReads prog 225 #[] (Value.int .i64) cfD blk off size w:=fun _ _ _ _ x y=>A2C x y _
theorem Ye(xs:U):xs.mergeSort (fun x y=>decide (y≤x))=sortD xs:=by
 refine A3a (List.mergeSort_perm _ _) ?_;have h:=List.pairwise_mergeSort (le:=fun x y:Int=>decide (y≤x)) (fun a b c h1 h2=>by simp at*;omega) (fun a b=>by simp;omega) xs;exact h.imp fun h=>by simpa using h
open Go.Shelf Go.Lib Go.Sort in
theorem Zv(g cap:Nat)(xs:U)(S:Bk)(w:World)(aB:Ag 3 Ap S w (.slice (some ⟨g,0,none⟩) xs.length cap) xs)(hI:∀x∈xs,Cc x)(sM:xs.length<4611686018427387904):
  Calls prog 224 #[.slice (some ⟨g,0,none⟩) xs.length cap,.func (.func 225) #[] #[]] w fun e w'=>e=.returned (.tuple #[])∧Ag 3 Ap (fun b=>S b∧b<w.heap.size) w' (.slice (some ⟨g,0,none⟩) xs.length cap) (sortD xs)∧AO (fun b=>b=g) w w':=by
 have eg:∀args w,(callFunc 225 args).run prog w=.ok (.enter 225 args) w:=enters_of func225 (by kernel_rfl) rfl;have hg:g<w.heap.size:=by
  rcases aB with⟨h,-⟩|⟨g',arr,he,-,hh,-⟩
  ·cases h
  ·simp only[Value.slice.injEq,Option.some.injEq,Addr.mk.injEq,and_true]at he;obtain⟨rfl,-⟩:=he;exact lt_of_block hh
 have hH:Holds (Value.int .i64) w g 0 xs.toArray:=by
  intro j hj;have iO:j<xs.length:=by simpa using hj
  obtain⟨h1,h2,-⟩:=aB.qaf (A3 iO);rw[Nat.zero_add];refine⟨?_,h2⟩;rw[h1,getElem!_pos _ j hj];simp
 have hS:=Any.slices_SortFunc_total Tryz.qce (Value.int .i64) (fun _=>rfl) cfD A54 225 #[] g 0 cap xs.toArray w eg (A1y g 0 xs.toArray.size w).lays hH hg (by simpa using sM) A55;rw[geD]at hS;change Calls prog 224 _ _ _ at hS;have e1:xs.toArray.size=xs.length:=Jj;rw[e1]at hS;refine hS.mono ?_;rintro e w' ⟨rfl,q,os,rfl⟩;refine⟨rfl,?_⟩;have e2:xs.toArray.toList.mergeSort (fun x y=>decide (y≤x))=sortD xs:=Ye xs;have h1:=Ag.qbm (sortD xs) xs 0 (w.drewN q) (show Ag 3 Ap S (w.drewN q) _ xs from aB) (by rw[CR];omega) (fun z hz=>hI z ((Gx xs).mem_iff.1 hz));rw[A0q (by rw[CR])]at h1;have e3:sortWorld (Value.int .i64) w g 0 q (sortD xs).toArray os=grow ((w.drewN q).setCells g 0 ((sortD xs).map (Value.int .i64))) os:=Lib.sorted_world _ w g 0 q _ _ os hH (by rw[CR];simp);rw[e2,e3];have hz:((w.drewN q).setCells g 0 ((sortD xs).map (Value.int .i64))).heap.size=w.heap.size:=JY _ _ _ _;have h2:=(Ab A8).inH h1;rw[hz]at h2;refine⟨(Ab A8).same (fun b hb=>heap_grow_old _ _ (by rw[hz];exact hb.2)) h2,?_⟩;have h3:=KL (S:=fun b=>b=g) (a:=w) rfl ((sortD xs).map (Value.int .i64)) 0 (w.drewN q) ((AO.refl _ w).drewN q);exact⟨h3.os,h3.tape,h3.output,by rw[size_grow,hz];omega,fun b hb hn=>(heap_grow_old _ _ (by rw[hz];exact hb)).trans (h3.block b hb hn)⟩
theorem Wl(v:Value)(xs:U)(w:World)(hv:Au w v xs)(h1:1≤xs.length)(hl:xs.length≤1048576):Calls prog 159 #[v] w (N7 3 Ap w (sortD xs)):=by
 have Hv:=Z hv;have hI:∀x∈xs,Cc x:=by
  intro x hx;obtain⟨k,hk⟩:=List.getElem?_of_mem hx;obtain⟨a,cap,rfl,-,-,-,hc⟩:=hv;obtain⟨b,off,-,-,cP⟩:=hc h1;obtain⟨u,-,-,h⟩:=cP k x hk;exact h
 have HI:=Z hI;obtain⟨a,cap,rfl,-⟩:=hv;clear hI;go_enter func159,ntmps159;go_wp2_with fail;refine(GF _ xs _ Hv.o hl).mono ?_;rintro e w1 ⟨v1,rfl,o1,b1⟩;obtain⟨g,c1,rfl,-,-,-,-⟩:=o1.qac h1;have fS:=Z o1;clear o1;go_wp2_with fail;refine(Zv g c1 xs _ w1 fS.o HI.o J).mono ?_;rintro e w2 ⟨rfl,o2,h2⟩;have dB:=Z o2;have hs2:=h2.size;have af:Below w.heap.size w w2:=b1.trans (h2.below b1.size (fun b hb=>by have hb:b=g:=hb;rw[hb];exact(fS.o.qae g rfl).1));clear o2;go_wp2
 go_ret
 exact⟨_,rfl,(Ab A8).mono (fun b hb=>⟨hb.1.1,Aa hb.2 hs2⟩) dB.o,af⟩
theorem IW(v v2:Value)(xs ys:U)(w:World)(hv:Au w v xs)(aS:Au w v2 ys):Calls prog 91 #[v,v2] w fun e w'=>e=.returned (.int .i64 (Fq xs ys))∧Below w.heap.size w w':=by
 have Hv:=Z hv;have aY:=Z aS;obtain⟨a,cap,rfl,-⟩:=hv;obtain⟨a2,cap2,rfl,-⟩:=aS;cases hok:AT xs ys
 ·have aR:=Z hok;have Hr:=Z (show Fq xs ys=0 from by unfold Fq;rw[hok];rfl);clear hok;go_enter func91,ntmps91;go_wp2_with fail;refine(Fx _ _ _ _ _ Hv.o aY.o).mono ?_;rintro e w' ⟨rfl,rfl⟩;rw[aR.o];go_wp2
  go_ret
  exact⟨CY (by rw[Hr.o];rfl),A6 _ _⟩
 have Hr:=Z (show Fq xs ys=FJ xs ys from by unfold Fq;rw[hok];rfl);obtain⟨x1,x5,y1,y5,-,-,-⟩:=BG hok;obtain⟨ax,ay⟩:=GH hok;have sS:=Z ax;have xV:=Z (show ∀k,IP ((sortD ys).take k)from fun k=>QF ay J y5);have pT:=Z (show ∀k,IP ((EN xs ys.length).take k)from fun k=>RW x5 y5);have Hm:=Z (show ∀k,k≤ys.length→AP ((EN xs ys.length).take k)=LU xs k from fun k hk=>XW hok hk);have aR:=Z hok;clear hok ax ay;go_enter func91,ntmps91;go_wp2_with fail;refine(Fx _ _ _ _ _ Hv.o aY.o).mono ?_;rintro e w' ⟨rfl,rfl⟩;rw[aR.o];go_wp2_with fail;refine(TK _ xs ys.length _ Hv.o y1 y5 x5 sS.o).mono ?_;rintro e w1 ⟨v1,rfl,o1,b1⟩;obtain⟨g,c1,rfl,-,hc1,-,-⟩:=o1.qac (by rw[DT];omega);rw[DT]at hc1⊢;have gx:=o1.ints;rw[DT]at gx;have fS:=Z gx;clear o1 gx;go_wp2_with fail;refine(Wl _ ys _ (aY.o.keep b1) y1 J).mono ?_;rintro e w2 ⟨v2,rfl,o2,b2⟩;obtain⟨g2,c2,rfl,-,cM,-,-⟩:=o2.qac (by rw[CR];omega);rw[CR]at cM⊢;have ke:=o2.ints;rw[CR]at ke;have dB:=Z ke;have oD:=Z (Au.keep fS.o b2);have eI:=b1.qaa b2 (A2 _);clear o2 ke;go_wp2;go_loopw [7] (fun i wr=>∃k:Nat,1≤k∧k≤ys.length+1∧i=.int .i64 k∧Hid (∀i,1≤i→i<k→¬CU xs ys i)∧Below w2.heap.size w2 wr) (fun i _=>(ys.length+1-intOf i).toNat);exact⟨1,A2 _,J,rfl,(by intro i h1 h2;omega),A6 _ _⟩;obtain⟨k,fH,hk,rfl,fW,aA⟩:=hrel;by_cases cJ:k≤ys.length
 ·have hd:decide ((k:Int)≤(ys.length:Int))=true:=by rw[Ah];omega
  have hkc1:k≤c1:=J;have zQ:k≤c2:=J;obtain⟨z1,bL⟩:∃z,z=AP ((sortD ys).take k):=⟨_,rfl⟩;obtain⟨z2,bQ⟩:∃z,z=AP ((EN xs ys.length).take k):=⟨_,rfl⟩;have fE:=Z (show ∀m,Calls prog 87 #[.slice (some ⟨g2,0,none⟩) k c2] (wr.drewN m) fun e w''=>e=.returned (.int .i64 z1)∧w''=wr.drewN m from fun m=>(Gm _ _ _ (Au.pre (Au.keep dB.o (below_drewN aA m)) (by rw[CR];exact cJ)) (xV.o k)).mono fun e w'' ⟨he,hw⟩=>⟨by rw[he,bL],hw.symm⟩);have iE:=Z (show ∀m,Calls prog 87 #[.slice (some ⟨g,0,none⟩) k c1] (wr.drewN m) fun e w''=>e=.returned (.int .i64 z2)∧w''=wr.drewN m from fun m=>(Gm _ _ _ (Au.pre (Au.keep oD.o (below_drewN aA m)) (by rw[DT];exact cJ)) (pT.o k)).mono fun e w'' ⟨he,hw⟩=>⟨by rw[he,bQ],hw.symm⟩);have zi:=Hm.o k cJ;rw[←bQ]at zi;by_cases aF:z2<z1
  ·have li:decide (z1>z2)=true:=decide_eq_true aF;have xW:decide (z2<z1)=true:=decide_eq_true aF;have Hw:=Z (Ov fH cJ (by unfold CU;omega) fW.o);clear bL bQ zi aF;go_wp2;go_quiet ((first|(go_at_call 87;with_reducible exact Calls.quiet_of_same (fE.o _))|(go_at_call 87;with_reducible exact Calls.quiet_of_same (iE.o _))));go_wp2
   go_ret
   exact⟨CY (by rw[Hr.o,Hw.o]),below_drewN (eI.qaa aA (A2 _)) _⟩
  ·have li:decide (z1>z2)=false:=decide_eq_false aF;have xW:decide (z2<z1)=false:=decide_eq_false aF;have kC:=Z (show ∀i,1≤i→i<k+1→¬CU xs ys i from by
    intro i h1 h2;by_cases e:i=k
    ·rw[e];unfold CU;omega
    ·exact fW.o i h1 J)
   clear bL bQ zi aF;go_wp2;go_quiet ((first|(go_at_call 87;with_reducible exact Calls.quiet_of_same (fE.o _))|(go_at_call 87;with_reducible exact Calls.quiet_of_same (iE.o _))));go_wp2;go_roundw;exact⟨k+1,J,J,by go_num,kC,below_drewN aA _⟩;exact Jv
 ·have hd:decide ((k:Int)≤(ys.length:Int))=false:=by rw[decide_eq_false_iff_not];omega
  have Hw:=Z (show FJ xs ys=0 from LV.2 fun i h1 h2=>fW.o i h1 J);go_wp2
  go_ret
  exact⟨CY (by rw[Hr.o,Hw.o];rfl),eI.qaa aA (A2 _)⟩
theorem OZ(v v2:Value)(xs ys:U)(w:World)(hv:Au w v xs)(aS:Au w v2 ys):Calls prog 90 #[v,v2] w fun e w'=>e=.returned (.bool (BF xs ys))∧Below w.heap.size w w':=by
 have Hv:=Z hv;have aY:=Z aS;obtain⟨a,cap,rfl,-⟩:=hv;obtain⟨a2,cap2,rfl,-⟩:=aS;cases hok:AT xs ys
 ·have Hr:=Z (show BF xs ys=false from by unfold BF;rw[hok];rfl);have aR:=Z hok;clear hok;go_enter func90,ntmps90;go_wp2_with (first|(go_at_call 89;refine(Fx _ _ _ _ _ Hv.o aY.o).mono ?_;rintro e w' ⟨rfl,rfl⟩;rw[aR.o]))
  go_ret
  exact⟨AW (by rw[Hr.o]),A6 _ _⟩
 ·have Hr:=Z (show BF xs ys=decide (Fq xs ys=0)from by unfold BF;rw[hok];rfl);have nT:=OD xs ys;obtain⟨x1,x5,y1,y5,-,-,-⟩:=BG hok;obtain⟨z,hz⟩:∃z,z=Fq xs ys:=⟨_,rfl⟩;rw[←hz]at nT;have Hz:=Z hz;have aR:=Z hok;clear hok hz;by_cases h0:z=0
  ·have hb:((z:Int)==0)=true:=by rw[beq_iff_eq];omega
   go_enter func90,ntmps90;go_wp2_with (first|(go_at_call 89;refine(Fx _ _ _ _ _ Hv.o aY.o).mono ?_;rintro e w' ⟨rfl,rfl⟩;rw[aR.o])|(go_at_call 91;refine(IW _ _ _ _ _ Hv.o aY.o).mono ?_;rintro e w2 ⟨rfl,b2⟩;rw[←Hz.o]))
   go_ret
   exact⟨AW (by rw[Hr.o,←Hz.o,h0];rfl),b2⟩
  ·have hb:((z:Int)==0)=false:=by rw[Ai];omega
   go_enter func90,ntmps90;go_wp2_with (first|(go_at_call 89;refine(Fx _ _ _ _ _ Hv.o aY.o).mono ?_;rintro e w' ⟨rfl,rfl⟩;rw[aR.o])|(go_at_call 91;refine(IW _ _ _ _ _ Hv.o aY.o).mono ?_;rintro e w2 ⟨rfl,b2⟩;rw[←Hz.o]))
   go_ret
   exact⟨AW (by rw[Hr.o,←Hz.o,decide_eq_false h0]),b2⟩

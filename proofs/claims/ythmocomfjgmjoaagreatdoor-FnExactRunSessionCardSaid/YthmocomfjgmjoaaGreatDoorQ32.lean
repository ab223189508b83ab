/- Base. -/
import Derived.Test.YthmocomfjgmjoaaGreatDoorQ22
set_option maxHeartbeats 4000000
set_option maxRecDepth 100000
namespace Go.Proofs.YthmocomfjgmjoaaGreatDoor
open Go.RowKit Go.Proofs.Tryz
variable {b:Int}{cells:U}{f:Nat→Nat}{fw:Int}{k:Nat}{n:Int}{out p:U}
theorem U3:∀{p:U},(∀x∈p,¬n<x)→Fh n p=p++[n]
 |[],_=>rfl
 |x::p,h=>by
  unfold Fh;rw[if_neg (h x Jj),U3 (fun y hy=>h y (by simp[hy]))];rfl
theorem Rm{x:Int}:∀{p:U},(∀x∈p,¬n<x)→n<x→Fh n (p++[x])=p++[n]++[x]
 |[],_,hx=>by simp[Fh,hx]
 |y::p,h,hx=>by
  rw[List.cons_append];unfold Fh;rw[if_neg (h y Jj),Rm (fun z hz=>h z (by simp[hz])) hx];simp
theorem T3{x:Int}:∀{p:U},(∃y∈p,n<y)→Fh n (p++[x])=Fh n p++[x]
 |[],h=>by obtain⟨y,hy,-⟩:=h;cases hy
 |y::p,h=>by
  rw[List.cons_append];unfold Fh;by_cases hy:n<y
  ·rw[if_pos hy,if_pos hy];simp
  ·rw[if_neg hy,if_neg hy,T3 (p:=p) (by
    obtain⟨z,hz,aF⟩:=h;rcases List.mem_cons.1 hz with rfl|hz
    ·exact absurd aF hy
    ·exact⟨z,hz,aF⟩)];simp
def JO(n:Int)(p out:U)(done:Bool):Prop:=(done=false∧out=p∧∀x∈p,¬n<x)∨(done=true∧out=Fh n p∧∃x∈p,n<x)
theorem JO.end(h:JO n p out false):Fh n p=out++[n]:=by
 rcases h with⟨-,h1,h2⟩|⟨h,-⟩
 ·rw[h1,U3 h2]
 ·cases h
theorem JO.len{d:Bool}(h:JO n p out d):out.length≤p.length+1:=by
 rcases h with⟨-,h1,-⟩|⟨-,h1,-⟩
 ·rw[h1];omega
 ·rw[h1,(G5 n p).length_eq];simp
theorem JO.put{x:Int}(h:JO n p out false)(hx:n<x):JO n (p++[x]) (out++[n]++[x]) true:=by
 rcases h with⟨-,h1,h2⟩|⟨h,-⟩
 ·exact .inr ⟨rfl,by rw[h1,Rm h2 hx],x,Jj,hx⟩
 ·cases h
theorem JO.skip{x:Int}(h:JO n p out false)(hx:¬n<x):JO n (p++[x]) (out++[x]) false:=by
 rcases h with⟨-,h1,h2⟩|⟨h,-⟩
 ·refine .inl ⟨rfl,by rw[h1],fun y hy=>?_⟩;rcases List.mem_append.1 hy with hy|hy
  ·exact h2 y hy
  ·rw[List.mem_singleton]at hy;rw[hy];exact hx
 ·cases h
theorem JO.more{x:Int}(h:JO n p out true):JO n (p++[x]) (out++[x]) true:=by
 rcases h with⟨h,-⟩|⟨-,h1,y,hy,aF⟩
 ·cases h
 ·exact .inr ⟨rfl,by rw[h1,T3 ⟨y,hy,aF⟩],y,List.mem_append_left _ hy,aF⟩
theorem A1n{c:Nat}{L:List I}{m:I}{x:I}(h:L[k]? =some x):CN c (L.take (k+1)) m cells=CN c (L.take k) m cells+if C5 c m x cells then 1 else 0:=by
 unfold CN;rw[Nn h,Ad]
 split<;>rfl
theorem WA(c:Nat)(L:List I)(m:I)(cells:U):CN c L m cells≤L.length:=List.length_filter_le _ _
theorem Yn(v v2 v3:Value)(m x:I)(cells:U)(r c:Nat)(w:World)(hv:AI w v m)(aS:AI w v2 x)(j5:Au w v3 cells)(hs:Ax r c m)(kV:Ax r c x)(hr1:1≤r)(hr5:r≤5)(hc1:1≤c)(hc5:c≤5)(eL:∀n∈cells,0≤n∧n<((r*c:Nat):Int))(ah:cells.length≤1000):Calls prog 261 #[v,v2,v3] w fun e w'=>e=.returned (.bool (C5 c m x cells))∧Below w.heap.size w w':=by
 obtain⟨b,off,cp,rfl,hb,pH⟩:=hv.cells hs hr1 hc1;obtain⟨b2,off2,cp2,rfl,af,hxc⟩:=aS.cells kV hr1 hc1;obtain⟨b0,o0,c0,bZ,bu,-⟩:=pH 0 J;rw[AF]at bZ;have Hmc:=Z pH;have Hxc:=Z hxc;have k9:=Z bZ;have il:=Z j5;have iK:=Z eL;obtain⟨a3,cap3,rfl,-⟩:=j5;clear pH hxc bZ hv aS eL;go_enter func261,ntmps261;go_wp2;go_loopw [8,11] (fun _ i wr=>∃j:Nat,j≤cells.length∧i=.int .i64 j∧Hid (C5 c m x (cells.take j)=true)∧Hid (Below w.heap.size w wr)) (fun _ i _=>cells.length-(intOf i).toNat);exact⟨0,A7 _,rfl,rfl,A6 _ _⟩;obtain⟨j,hj,rfl,iq,Hb⟩:=hrel;by_cases aF:j<cells.length
 ·obtain⟨n0,dS⟩:∃n,cells[j]? =some n:=⟨_,A3 aF⟩;have jn:=iK.o n0 (A4 dS);obtain⟨n,rfl⟩:∃n:Nat,n0=n:=⟨n0.toNat,J⟩;have rz:n<r*c:=J;have ku:n/c<r:=by rw[Nat.div_lt_iff_lt_mul J];exact rz
  have f4:n % c<c:=Nat.mod_lt _ J;have aG:=Z (Pq (c:=c) (m:=m) (x:=x) dS);have aT:=Z (show ∀z,C5 c m x (cells.take (j+1))=z→z=false→C5 c m x cells=false from fun z hz hf=>by
   rw[hf]at hz;unfold C5 at hz⊢;rw[List.all_eq_false]at hz⊢;obtain⟨y,hy,qg⟩:=hz;exact⟨y,List.mem_of_mem_take hy,qg⟩)
  obtain⟨bc,offc,cpc,hec,hbc,-⟩:=il.o.qac J;obtain⟨rfl,-⟩:a3=some ⟨bc,offc,none⟩∧cap3=cpc:=by simpa using hec
  have iF:=(Hb.o.cell (p:=⟨bc,offc+j,none⟩) hbc).trans (Au.at il.o dS);obtain⟨q1,f1,p1,m1,cf,m2⟩:=Hmc.o (n/c) ku;obtain⟨q2,f2,p2,x1,ct,x2⟩:=Hxc.o (n/c) ku;have m0:=(Hb.o.cell (p:=⟨b,off,none⟩) hb).trans k9.o;have m1:=(Hb.o.cell (p:=⟨b,off+n/c,none⟩) hb).trans m1;have m2:=(Hb.o.cell (p:=⟨q1,f1+n % c,none⟩) cf).trans (m2 (n % c) f4);have x1:=(Hb.o.cell (p:=⟨b2,off2+n/c,none⟩) af).trans x1;have x2:=(Hb.o.cell (p:=⟨q2,f2+n % c,none⟩) ct).trans (x2 (n % c) f4);have kU:(0:Int)≤(n:Int) / (c:Int):=Int.ediv_nonneg J J;have iB:(n:Int) / (c:Int)<(r:Int):=by rw[←Int.natCast_ediv];omega
  have xC:(0:Int)≤(n:Int) % (c:Int):=Int.emod_nonneg _ J;have xD:(n:Int) % (c:Int)<(c:Int):=Int.emod_lt_of_pos _ J;obtain⟨z1,bL⟩:∃z,z=AJ x (n/c) (n % c):=⟨_,rfl⟩;obtain⟨z2,bQ⟩:∃z,z=AJ m (n/c) (n % c):=⟨_,rfl⟩;rw[←bL]at x2 aG;rw[←bQ]at m2 aG;clear bL bQ dS jn hec;by_cases hz:z1=z2
  ·have ng:(z2 !=z1)=false:=by simp[hz]
   have eF:=Z (show C5 c m x (cells.take (j+1))=true from by rw[aG.o,iq.o,decide_eq_true hz];rfl);clear hz;go_wp2
   go_region
   all_goals
    go_wp2;go_roundw;exact⟨j+1,J,by go_num,eF,Z Hb.o.drew⟩;exact Jv
  ·have ng:(z2 !=z1)=true:=by rw[bne_iff_ne];exact fun e=>hz e.symm
   have Hf:=Z (aT.o _ aG.o (by rw[iq.o,decide_eq_false hz];rfl));clear hz;go_wp2
   go_region
   all_goals
    go_wp2
    go_ret
    exact⟨AW Hf.o.symm,Hb.o.drew⟩
 ·obtain rfl:j=cells.length:=J;rw[List.take_length]at iq;go_wp2
  go_ret
  exact⟨AW iq.o.symm,Hb.o⟩
theorem Sf(v v2 v3:Value)(L:List I)(m:I)(cells:U)(r c:Nat)(w:World)(hv:Gv w v L)(aS:AI w v2 m)(j5:Au w v3 cells)(hs:Ax r c m)(hL:∀g∈L,Ax r c g)(dG:L.length≤1073741824)(hr1:1≤r)(hr5:r≤5)(hc1:1≤c)(hc5:c≤5)(eL:∀n∈cells,0≤n∧n<((r*c:Nat):Int))(ah:cells.length≤1000):Calls prog 192 #[v,v2,v3] w fun e w'=>e=.returned (.int .i64 (CN c L m cells))∧Below w.heap.size w w':=by
 have Hv:=Z hv;have aY:=Z aS;have il:=Z j5;have pL:=Z hL;have iK:=Z eL;obtain⟨a,cap,rfl,-⟩:=id hv;obtain⟨a2,cap2,rfl,-⟩:=aS;obtain⟨a3,cap3,rfl,-⟩:=j5;obtain⟨N,hN⟩:∃N,N=L.length:=⟨_,rfl⟩;rw[←hN]at Hv dG⊢;have HN:=Z hN;clear hL eL hv hN;go_enter func192,ntmps192;go_wp2;go_loopw [7,9,12] (fun n _ i wr=>∃k:Nat,k≤N∧i=.int .i64 k∧n=.int .i64 (CN c (L.take k) m cells)∧Hid (Below w.heap.size w wr)) (fun _ _ i _=>N-(intOf i).toNat);exact⟨0,A7 _,rfl,by simp[CN,Cb],A6 _ _⟩;obtain⟨k,hk,rfl,rfl,Hb⟩:=hrel;have iF:=WA c (L.take k) m cells;rw[At]at iF;obtain⟨C,hC⟩:∃C,C=CN c (L.take k) m cells:=⟨_,rfl⟩;rw[←hC]at iF⊢;have HC:=Z hC;clear hC;by_cases aF:k<N
 ·obtain⟨x,hx⟩:∃x,L[k]? =some x:=⟨_,A3 (by rw[←HN.o];exact aF)⟩;have eX:=pL.o x (A4 hx);obtain⟨bl,ol,cl,he,eU,-⟩:=Hv.o.qac (by rw[←HN.o];omega);obtain⟨rfl,-⟩:a=some ⟨bl,ol,none⟩∧cap=cl:=by
   simp only[Value.slice.injEq]at he;exact⟨he.1,he.2.2⟩
  obtain⟨u,aW,hu⟩:=Sl.at Hv.o hx;have Hu:=Z (show AI w u x from hu);obtain⟨ua,uc,rfl,-⟩:=hu;have aW:=(Hb.o.cell (p:=⟨bl,ol+k,none⟩) eU).trans aW;have aG:=Z (A1n (c:=c) (m:=m) (cells:=cells) hx);rw[←HC.o]at aG;clear hx he;go_wp2_with fail;refine(Yn _ _ _ m x cells r c _ (aY.o.keep Hb.o) (Hu.o.keep Hb.o) (il.o.keep Hb.o) hs eX hr1 hr5 hc1 hc5 iK.o ah).mono ?_;rintro e w1 ⟨rfl,b1⟩;have dm:=Z (Hb.o.qaa b1 (A2 _));obtain⟨ag,fe⟩:∃ag,ag=C5 c m x cells:=⟨_,rfl⟩;rw[←fe]at aG⊢;clear fe;cases ag
  ·have eF:=Z (show CN c (L.take (k+1)) m cells=C from by rw[aG.o];rfl);go_wp2;go_roundw;exact⟨k+1,J,by go_num,by rw[eF.o],dm⟩;exact Jv
  ·have eF:=Z (show CN c (L.take (k+1)) m cells=C+1 from by rw[aG.o];rfl);go_wp2;go_roundw;exact⟨k+1,J,by go_num,by rw[eF.o];go_num,dm⟩;exact Jv
 ·obtain rfl:k=N:=J;have aU:=Z (show(C:Int)=(CN c L m cells:Nat)from by rw[HC.o,A9 (by rw[←HN.o];exact A2 _)]);go_wp2
  go_ret
  exact⟨CY aU.o,Hb.o⟩
def KY(f:Nat→Nat)(k:Nat)(b fw:Int):Prop:=(k=0∧b=-1∧fw=0)∨(1≤k∧b=(Dc f k:Nat)∧fw=(f (Dc f k):Nat))
theorem KY.take(h:KY f k b fw)(aF:b<0∨(f k:Int)<fw):KY f (k+1) k (f k):=by
 rcases h with⟨rfl,-,-⟩|⟨h1,rfl,rfl⟩
 ·exact .inr ⟨J,by rw[L0],by rw[L0]⟩
 ·have e:Dc f (k+1)=k:=by rw[JP h1,if_pos J]
  exact .inr ⟨J,by rw[e],by rw[e]⟩
theorem KY.pass(h:KY f k b fw)(h0:¬b<0)(aF:¬(f k:Int)<fw):KY f (k+1) b fw:=by
 rcases h with⟨rfl,rfl,rfl⟩|⟨h1,h2,rfl⟩
 ·omega
 ·have e:Dc f (k+1)=Dc f k:=by rw[JP h1,if_neg J]
  exact .inr ⟨J,by rw[e,h2],by rw[e]⟩
theorem KY.bd{len:Nat}(hf:∀i,f i≤len)(h:KY f k b fw):-1≤b∧b≤k∧0≤fw∧fw≤len:=by
 rcases h with⟨rfl,rfl,rfl⟩|⟨h1,rfl,rfl⟩
 ·omega
 ·have:=(Mr f k h1).1;have:=hf (Dc f k);omega
theorem A3H{N:Nat}(h:DJ N cells)(hk:k<N):∀n∈cells++[(k:Int)],0≤n∧n<(N:Int):=fun n hn=>by
 rcases List.mem_append.1 hn with hn|hn
 ·exact h.2 n hn
 ·rw[List.mem_singleton]at hn;omega
theorem A1j(v v2 v3:Value)(L:List I)(m:I)(cells:U)(r c:Nat)(w:World)(hv:Gv w v L)(aS:AI w v2 m)(j5:Au w v3 cells)(hs:Ax r c m)(hL:∀g∈L,Ax r c g)(dG:L.length≤1073741824)(hr1:1≤r)(hr5:r≤5)(hc1:1≤c)(hc5:c≤5)(dR:DJ (r*c) cells):Calls prog 194 #[v,v2,v3] w fun e w'=>e=.returned (.int .i64 (C9 c (r*c) L m cells))∧Below w.heap.size w w':=by
 have Hv:=Z hv;have aY:=Z aS;have il:=Z j5;have pL:=Z hL;have lM:=Z dR;have jt:r*c≤25:=Nat.mul_le_mul hr5 hc5;have yx:1≤r*c:=Nat.mul_pos hr1 hc1;have ah:=MH dR;obtain⟨a,cap,rfl,-⟩:=hv;obtain⟨b,off,cp,rfl,hb,pH⟩:=aS.cells hs hr1 hc1;obtain⟨b0,o0,c0,bZ,bu,-⟩:=pH 0 J;rw[AF]at bZ;have k9:=Z bZ;obtain⟨a3,cap3,rfl,-⟩:=j5;have ju:=Z (show(r:Int)*(c:Int)=((r*c:Nat):Int)from by rw[Int.natCast_mul]);obtain⟨f,hf⟩:∃f:Nat→Nat,f=fun k:Nat=>CN c L m (cells++[(k:Int)]):=⟨_,rfl⟩;have yz:=Z (show ∀k,f k=CN c L m (cells++[(k:Int)])from fun k=>by rw[hf]);have tg:=Z (show ∀i,f i≤L.length from fun i=>by rw[hf];exact WA _ _ _ _);have th:=Z (show C9 c (r*c) L m cells=Dc f (r*c)from by rw[hf];rfl);clear hL pH bZ hf dR aS;go_enter func194,ntmps194;go_wp2;go_loopw [7,8,9,10] (fun bv fv i _ wr=>∃(k:Nat)(bi fi:Int),k≤r*c∧i=.int .i64 k∧bv=.int .i64 bi∧fv=.int .i64 fi∧Hid (KY f k bi fi)∧Hid (Below w.heap.size w wr)) (fun _ _ i _ _=>r*c-(intOf i).toNat);exact⟨0,-1,0,A7 _,rfl,rfl,rfl,.inl ⟨rfl,rfl,rfl⟩,A6 _ _⟩;obtain⟨k,bi,fi,hk,rfl,rfl,rfl,aG,Hb⟩:=hrel;obtain⟨wo,rfl⟩:∃wo:World,wo=wr:=⟨_,rfl⟩;have bZ:=(Hb.o.cell (p:=⟨b,off,none⟩) hb).trans k9.o;obtain⟨dK,af,dg,gA⟩:=aG.o.bd tg.o;by_cases aF:k<r*c
 ·have dM:(k:Int)<(r:Int)*(c:Int):=by rw[ju.o];omega
  have hkI:Cc (k:Int):=Cc.small J J;have Hu:=Z ((il.o.keep Hb.o).keep (Below.qab wo (.cells #[] 3)));have eP:=Z (BK wo 3 wo.heap.size A8);have hz:(wo.alloc (.cells #[] 3)).heap.size=wo.heap.size+1:=Jj;have Hz:=Z hz;have gU:([]:U).length+cells.length≤1099511627776:=by simp;omega
  have eJ:([]++cells:U).length<1099511627776:=by simp;omega
  clear hz;go_wp2_with (first
   |(at_builtin;(refine DM rfl _ _ 32 rfl 3 underlying32 Bg rfl (Iv wo.heap.size (wo.alloc (.cells #[] 3)).heap.size) rfl rfl (by exact eP.o) (by exact Hu.o) gU ?_;intro v2 w2 hown2 honly2 _;obtain⟨q1,q2,q3,rfl⟩:=hown2.shape;have af:Below wo.heap.size wo w2:=(Below.qab wo (.cells #[] 3)).trans (AO.below honly2 (by rw[Hz.o];omega) (fun b hb=>(eP.o.qae b hb).1));have hM:wo.heap.size≤w2.heap.size:=af.size;have jv:=Z ((Ab A8).mono (S':=Iv wo.heap.size w2.heap.size) (fun b hb=>hb.elim (fun h=>⟨h.1,by have h1:=h.2;have h2:=honly2.size;rw[Hz.o]at h1 h2;omega⟩) (fun h=>⟨by have h1:=h.1;rw[Hz.o]at h1;omega,h.2⟩)) hown2);have fa:=Z af;clear hown2 honly2 af))
   |(at_builtin;(refine AH rfl _ _ 32 rfl A8 3 underlying32 Bg rfl Jq wo.heap.size w2.heap.size hM (A2 _) rfl rfl (by exact jv.o) (by exact⟨rfl,hkI⟩) eJ ?_);intro v3 w3 bC hbel3 _;rw[List.nil_append]at bC;have cY:=Z bC.ints;have ji:=Z hbel3;clear bC hbel3)
   |fail)
  have bN:=Z (Hb.o.qaa (fa.o.trans ji.o) (A2 _));have mT:(cells++[(k:Int)]).length≤1000:=by rw[Ad,List.length_singleton];omega
  have zA:=Z (A3H lM.o aF);refine(Sf _ _ _ L m (cells++[(k:Int)]) r c _ (Hv.o.keep bN.o) (aY.o.keep bN.o) cY.o hs pL.o dG hr1 hr5 hc1 hc5 zA.o mT).mono ?_;rintro e w4 ⟨rfl,b4⟩;rw[←yz.o];have xS:=tg.o k;have eN:=Z (bN.o.qaa b4 (A2 _));obtain⟨C,hC⟩:∃C,C=f k:=⟨_,rfl⟩;rw[←hC]at xS⊢;have HC:=Z hC;clear hC mT bZ;by_cases h0:bi<0
  ·have pG:decide (bi<0)=true:=decide_eq_true h0;have eF:=Z (aG.o.take (.inl h0));rw[←HC.o]at eF;go_wp2;go_roundw;exact⟨k+1,k,C,J,by go_num,rfl,rfl,eF,eN⟩;exact Jv
  ·have pG:decide (bi<0)=false:=decide_eq_false h0;by_cases h1:(C:Int)<fi
   ·have jZ:decide ((C:Int)<fi)=true:=decide_eq_true h1;have eF:=Z (aG.o.take (.inr (by rw[←HC.o];exact h1)));rw[←HC.o]at eF;go_wp2;go_roundw;exact⟨k+1,k,C,J,by go_num,rfl,rfl,eF,eN⟩;exact Jv
   ·have jZ:decide ((C:Int)<fi)=false:=decide_eq_false h1;have eF:=Z (aG.o.pass h0 (by rw[←HC.o];exact h1));go_wp2;go_roundw;exact⟨k+1,bi,fi,J,by go_num,rfl,rfl,eF,eN⟩;exact Jv
 ·obtain rfl:k=r*c:=J;have dM:¬(((r*c:Nat):Int)<(r:Int)*(c:Int)):=by rw[ju.o];omega
  have aU:=Z (show bi=(C9 c (r*c) L m cells:Nat)from by
   rcases aG.o with⟨h,-⟩|⟨-,h,-⟩
   ·omega
   ·rw[h,th.o])
  obtain⟨K,hK⟩:∃K,K=r*c:=⟨_,rfl⟩;rw[←hK]at dM⊢;clear hK;go_wp2
  go_ret
  exact⟨CY aU.o,Hb.o⟩
theorem Ya(v:Value)(l:U)(n:Int)(w:World)(hv:Au w v l)(hn:Cc n)(hl:l.length≤1000):Calls prog 193 #[v,.int .i64 n] w (N7 3 Ap w (Fh n l)):=by
 have Hv:=Z hv;obtain⟨a,cap,rfl,-⟩:=hv;go_enter func193,ntmps193;go_wp2;go_loopw [5,6,8,12] (fun ov dv _ i wr=>∃(k:Nat)(out:U)(d:Bool),k≤l.length∧i=.int .i64 k∧dv=.bool d∧Hid (Ag 3 Ap (Iv w.heap.size wr.heap.size) wr ov out)∧Hid (JO n (l.take k) out d)∧Hid (Below w.heap.size w wr)) (fun _ _ _ i _=>l.length-(intOf i).toNat);exact⟨0,[],false,A7 _,rfl,rfl,BK _ _ _ A8,.inl ⟨rfl,rfl,fun x hx=>by cases hx⟩,Below.qab _ _⟩;obtain⟨k,out,d,hk,rfl,rfl,Ho,Hi,Hb⟩:=hrel;obtain⟨wo,rfl⟩:∃wo:World,wo=wr:=⟨_,rfl⟩;have bD:=Hb.o.size;have gt:=Hi.o.len;rw[At]at gt;have mU:out.length<1099511627776:=J;obtain⟨p1,p2,p3,rfl⟩:=Ho.o.shape;by_cases aF:k<l.length
 ·obtain⟨x,hx⟩:∃x,l[k]? =some x:=⟨_,A3 aF⟩;obtain⟨b,off,cpr,he,hb,-⟩:=Hv.o.qac J;obtain⟨rfl,-⟩:a=some ⟨b,off,none⟩∧cap=cpr:=by simpa using he
  obtain⟨u,hu,rfl,sC⟩:=Sl.at Hv.o hx;have fK:=(Hb.o.cell (p:=⟨b,off+k,none⟩) hb).trans hu;have nW:=Z (show l.take (k+1)=l.take k++[x]from by rw[Ao,hx];rfl);clear hx he hu;cases d
  ·by_cases hnx:n<x
   ·have hd:decide (x>n)=true:=decide_eq_true hnx;have pM:=Z (Hi.o.put hnx);rw[←nW.o]at pM;clear Hi;go_wp2_with (first
     |(at_builtin;(refine AH (w0:=wo) (u:=.int .i64 n) rfl _ _ 32 rfl A8 3 underlying32 Bg rfl Jq w.heap.size wo.heap.size bD (A2 _) rfl rfl (by exact Ho.o) (by exact⟨rfl,hn⟩) mU ?_);intro v3 w3 o3 b3 _;obtain⟨q3,hq3⟩:∃q3,q3=out++[n]:=⟨_,rfl⟩;rw[←hq3]at o3;have xT:=Z hq3;have j6:q3.length<1099511627776:=(by rw[hq3];simp;omega);obtain⟨g1,g2,g3,rfl⟩:=o3.shape;have cY:=Z o3;have bN:=Z (Hb.o.trans b3);have jw:=bN.o.size;clear hq3 o3 b3)
     |(at_builtin;(refine AH (w0:=w3) (u:=.int .i64 x) rfl _ _ 32 rfl A8 3 underlying32 Bg rfl Jq w.heap.size w3.heap.size jw (A2 _) rfl rfl (by exact cY.o) (by exact⟨rfl,sC⟩) j6 ?_);intro v4 w4 o4 b4 _)
     |fail)
    exact⟨⟨k+1,_,true,J,by go_num,rfl,Z o4,Z (by rw[xT.o];exact pM.o),Z (bN.o.trans b4)⟩,by simp[intOf];omega⟩
   ·have hd:decide (x>n)=false:=decide_eq_false hnx;have pM:=Z (Hi.o.skip hnx);rw[←nW.o]at pM;clear Hi;go_wp2_with (first
     |(at_builtin;(refine AH (w0:=wo) (u:=.int .i64 x) rfl _ _ 32 rfl A8 3 underlying32 Bg rfl Jq w.heap.size wo.heap.size bD (A2 _) rfl rfl (by exact Ho.o) (by exact⟨rfl,sC⟩) mU ?_);intro v4 w4 o4 b4 _)
     |fail)
    exact⟨⟨k+1,_,false,J,by go_num,rfl,Z o4,pM,Z (Hb.o.trans b4)⟩,by simp[intOf];omega⟩
  ·have pM:=Z (Hi.o.more (x:=x));rw[←nW.o]at pM;clear Hi;go_wp2_with (first
    |(at_builtin;(refine AH (w0:=wo) (u:=.int .i64 x) rfl _ _ 32 rfl A8 3 underlying32 Bg rfl Jq w.heap.size wo.heap.size bD (A2 _) rfl rfl (by exact Ho.o) (by exact⟨rfl,sC⟩) mU ?_);intro v4 w4 o4 b4 _)
    |fail)
   exact⟨⟨k+1,_,true,J,by go_num,rfl,Z o4,pM,Z (Hb.o.trans b4)⟩,by simp[intOf];omega⟩
 ·obtain rfl:k=l.length:=J;rw[List.take_length]at Hi;cases d
  ·have aU:=Z Hi.o.end;go_wp2_with (first
    |(at_builtin;(refine AH (w0:=wo) (u:=.int .i64 n) rfl _ _ 32 rfl A8 3 underlying32 Bg rfl Jq w.heap.size wo.heap.size bD (A2 _) rfl rfl (by exact Ho.o) (by exact⟨rfl,hn⟩) mU ?_);intro v4 w4 o4 b4 _;obtain⟨g1,g2,g3,rfl⟩:=o4.shape;have fQ:=Z o4;have eN:=Z (Hb.o.trans b4);clear o4 b4)
    |fail)
   go_ret
   exact⟨_,rfl,by rw[aU.o];exact fQ.o,eN.o⟩
  ·have aU:=Z (show Fh n l=out from by
    rcases Hi.o with⟨h,-⟩|⟨-,h,-⟩
    ·cases h
    ·exact h.symm)
   go_wp2
   go_ret
   exact⟨_,rfl,by rw[aU.o];exact Ho.o,Hb.o⟩
theorem Rk(v:Value)(m:I)(r c:Nat)(w:World)(hv:AI w v m)(hs:Ax r c m)(hr1:1≤r)(hr5:r≤5)(hc1:1≤c)(hc5:c≤5):Calls prog 133 #[v] w fun e w'=>∃v',e=.returned (.tuple #[v',.bool true])∧Ag 3 Ap (Iv w.heap.size w'.heap.size) w' v' (I8 r c m)∧Below w.heap.size w w':=by
 have hI:=Ro hs hr1 hr5 hc1 hc5;obtain⟨W,hW⟩:∃W,W=I8 r c m:=⟨_,rfl⟩;obtain⟨L,hL⟩:∃L,L=BB (Ae m) (Al m):=⟨_,rfl⟩;have nj:W=Gb c (r*c) L m L.length []:=by rw[hW,hL];rfl
 have iF:CN c L m []≤L.length:=List.length_filter_le _ _;rw[←hL]at hI;rw[←hW];have HI:=Z hI;have dG:=hI.big;have lN:0<L.length:=List.length_pos_of_mem hI.self;have jt:r*c≤25:=Nat.mul_le_mul hr5 hc5;have aR:=Z (hs.ok hr1 hr5 hc1 hc5);have Hv:=Z hv;have HL:=Z hL;obtain⟨a,cap,rfl,-⟩:=hv;have HW2:=Z nj;have zB:=Z iF;clear hI hW hL nj iF;go_enter func133,ntmps133;go_wp2_with fail;refine(Bh _ _ _ Hv.o).mono ?_;rintro e w' ⟨rfl,rfl⟩;rw[aR.o];go_wp2_with fail;refine(FSa _ _ _ Hv.o).mono ?_;rintro e w2 ⟨v2,rfl,o2,b2⟩;have dB:=Z o2.ints;clear o2;go_wp2_with fail;refine(CQ 141 (.inr rfl) _ _ _ (Hv.o.keep b2)).mono ?_;rintro e w3 ⟨v3,rfl,o3,b3⟩;go_wp2_with fail;refine(Jo _ _ _ _ _ (dB.o.keep b3) o3.ints).mono ?_;rintro e w4 ⟨v4,rfl,o4,b4⟩;rw[HI.o.ok];rw[show Bt (Ae m) (Al m)=L from by unfold Bt;rw[HI.o.ok,HL.o];rfl]at o4;have jH:=b2.qaa (b3.qaa b4 (A2 _)) (A2 _);obtain⟨gl,gc,rfl,-,-,bz,-⟩:=o4.qac lN;have Hg:=Z o4.qan;have ti:=Z (show GSt w.heap.size r c m L W w (w4.alloc (.cells #[] 3)) (.slice (some ⟨w4.heap.size,0,none⟩) 0 0) [] L.length from⟨BK w4 3 w.heap.size A8 (jH.size),NE _,by have:=zB.o;omega,HW2.o,jH.qaa (Below.qab _ _) (A2 _)⟩);have H4:=Z (Below.qab w4 (.cells #[] 3));clear o3 o4;go_wp2;go_loopw [6] (fun ov wr=>∃(cells:U)(f:Nat),Hid (GSt w.heap.size r c m L W w wr ov cells f)∧Hid (Below w4.heap.size w4 wr)) (fun ov _=>26-A0j ov);exact⟨[],L.length,ti,H4⟩;clear ti H4;obtain⟨cells,f,St,H4⟩:=hrel;obtain⟨N,hN⟩:∃N,N=CN c L m cells:=⟨_,rfl⟩;have HN:=Z hN;have aZ:1≤N:=by rw[hN];exact Mp HI.o.self cells
 have hNL:N≤L.length:=by rw[hN];exact WA _ _ _ _
 have hNf:N≤f+1:=by rw[hN];exact St.o.cnt
 have ah:=MH St.o.ris;have mT:cells.length≤1000:=J;have pN:=Z St.o.own.ints;obtain⟨p1,p2,p3,rfl⟩:=St.o.own.shape;obtain rfl:p2=cells.length:=Au.len St.o.own.ints;clear hN;go_wp2_with fail;refine(Sf _ _ _ L m cells r c _ (Hg.o.keep H4.o) (Hv.o.keep St.o.bel) pN.o hs HI.o.shape dG hr1 hr5 hc1 hc5 St.o.ris.2 mT).mono ?_;rintro e w5 ⟨rfl,b5⟩;rw[←HN.o];by_cases h1:N=1
 ·have aU:=Z (show W=cells from by rw[St.o.eq,Mu (by rw[←HN.o];omega)]);have aC:=Z (Ag.grow A8 St.o.own (A2 _) b5);have js:=St.o.bel.qaa b5 (A2 _);have hd:decide ((N:Int)>1)=false:=decide_eq_false J;have li:decide ((1:Int)<(N:Int))=false:=decide_eq_false J;clear h1;go_wp2;refine Jz #[.slice p1 cells.length p3,.bool true] (by simp[results,results133,go_sem]) ?_;exact⟨_,rfl,by rw[aU.o];exact aC.o,js⟩
 ·have mV:=PK hr1 hc1 HI.o.nd HI.o.shape HI.o.self St.o.ris (by rw[←HN.o];omega);have hd:decide ((N:Int)>1)=true:=decide_eq_true J;have li:decide ((1:Int)<(N:Int))=true:=decide_eq_true J;obtain⟨f',rfl⟩:∃f',f=f'+1:=⟨f-1,J⟩;have gC:=Z (show W=Gb c (r*c) L m f' (Fh (C9 c (r*c) L m cells) cells)from by rw[St.o.eq,MG (by rw[←HN.o];omega)]);obtain⟨X,hX⟩:∃X,X=C9 c (r*c) L m cells:=⟨_,rfl⟩;rw[←hX]at mV gC;have HX:=Z hX;have hXb:=mV.1;have tj:=Z mV.2.2.2.1;have zC:=Z (show CN c L m (Fh X cells)≤f'+1 from by have:=mV.2.2.2.2;rw[←HN.o]at this;omega);have Hil:=Z (show(Fh (X:Int) cells).length=cells.length+1 from by rw[(G5 (X:Int) cells).length_eq];simp);clear hX mV h1;have mW:=Z (pN.o.keep b5);have gd:=Z (St.o.bel.qaa b5 (A2 _));have H45:=Z (H4.o.qaa b5 (A2 _));go_wp2_with fail;refine(A1j _ _ _ L m cells r c _ (Hg.o.keep H45.o) (Hv.o.keep gd.o) mW.o hs HI.o.shape dG hr1 hr5 hc1 hc5 St.o.ris).mono ?_;rintro e w6 ⟨rfl,b6⟩;rw[←HX.o];have zD:Cc (X:Int):=Cc.small J J;go_wp2_with fail;refine(Ya _ cells _ _ (mW.o.keep b6) zD mT).mono ?_;rintro e w7 ⟨v7,rfl,o7,b7⟩;have nw:=Z (gd.o.qaa b6 (A2 _));have tk:=nw.o.size;have Hb7:=Z (nw.o.qaa b7 (A2 _));have H47:=Z (H45.o.qaa (b6.qaa b7 (A2 _)) (A2 _));obtain⟨y1,y2,y3,rfl⟩:=o7.shape;obtain rfl:y2=(Fh (X:Int) cells).length:=Au.len o7.ints;have St7:=Z (show GSt w.heap.size r c m L W w w7 (.slice y1 (Fh (X:Int) cells).length y3) (Fh X cells) f' from⟨(Ab A8).mono (fun b hb=>⟨Aj tk hb.1,hb.2⟩) o7,tj.o,zC.o,gC.o,Hb7.o⟩);clear o7;go_wp2;go_roundw
  case rel=>exact⟨_,f',St7,H47⟩
  case measure=>have:=Hil.o;simp[A0j];omega
theorem QY(v:Value)(m:I)(w:World)(hv:AI w v m):Calls prog 133 #[v] w fun e w'=>∃v',e=.returned (.tuple #[v',.bool (Dt m).isSome])∧Ag 3 Ap (Iv w.heap.size w'.heap.size) w' v' ((Dt m).getD [])∧Below w.heap.size w w':=by
 cases hok:AC m
 ·have Hr:=Z (show Dt m=none from by simp[Dt,hok]);have aR:=Z hok;clear hok;obtain⟨a,cap,rfl,-⟩:=id hv;go_enter func133,ntmps133;go_wp2_with fail;refine(Bh _ _ _ hv).mono ?_;rintro e w' ⟨rfl,rfl⟩;rw[aR.o];go_wp2;refine Jz #[.slice none 0 0,.bool false] (by simp[results,results133,go_sem]) ?_;exact⟨_,by rw[Hr.o];rfl,by rw[Hr.o];exact Ag.nil _ _ _ _,A6 _ _⟩
 ·obtain⟨r,c,hr1,hr5,hc1,hc5,an⟩:=Az hok;rw[NC an hr1 hr5 hc1 hc5];exact Rk v m r c w hv an hr1 hr5 hc1 hc5

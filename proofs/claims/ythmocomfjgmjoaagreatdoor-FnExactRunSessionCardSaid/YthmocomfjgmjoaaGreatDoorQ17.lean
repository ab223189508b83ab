/- Base. -/
import Derived.Test.YthmocomfjgmjoaaGreatDoorQ11
import Derived.Test.YthmocomfjgmjoaaGreatDoorQ12
import Derived.Test.YthmocomfjgmjoaaGreatDoorQ10
set_option maxHeartbeats 1600000
namespace Go.Proofs.YthmocomfjgmjoaaGreatDoor
open Go.RowKit Go.Proofs.Tryz
variable {E:TypeId}{S T X:Bk}{arr:Array Value}{b c:Nat}{f:Nat→Option Nat}{fz:Nat×Nat}{g:I}{gs:List I}{k:Nat}{l:List Nat}{m:I}{n n0:Nat}{qv:Value}{r:Nat}{ss:List Sw}{v:Value}{w w':World}{x:Nat}
def Dq(m t:I):Bool:=AC m&&(AC t&&(decide (m.length=t.length)&&decide ((m.headD []).length=(t.headD []).length)))
theorem DF(h:Ax r c m)(h1:1≤r):m.length=r∧(m.headD []).length=c:=by
 refine⟨h.1,?_⟩;cases m with
 |nil=>have:=h.1;simp at this;omega
 |cons a l=>exact(h.2 a Jj).1
inductive Wi(m t:I):Prop
 |bad1:AC m=false→Dq m t=false→Wi m t
 |bad2:AC m=true→AC t=false→Dq m t=false→Wi m t
 |ok (r c r2 c2:Nat):AC m=true→AC t=true→1≤r→r≤5→1≤c→c≤5→Ax r c m→1≤r2→r2≤5→1≤c2→c2≤5→Ax r2 c2 t→Dq m t=(decide (r=r2)&&decide (c=c2))→Wi m t
theorem Wt(m t:I):Wi m t:=by
 cases h1:AC m
 ·exact .bad1 h1 (by unfold Dq;rw[h1];rfl)
 cases h2:AC t
 ·exact .bad2 h1 h2 (by unfold Dq;rw[h1,h2];rfl)
 obtain⟨r,c,a1,a2,a3,a4,a5⟩:=Az h1;obtain⟨r2,c2,b1,b2,b3,b4,b5⟩:=Az h2;refine .ok r c r2 c2 h1 h2 a1 a2 a3 a4 a5 b1 b2 b3 b4 b5 ?_;unfold Dq;rw[h1,h2,(DF a5 a1).1,(DF a5 a1).2,(DF b5 b1).1,(DF b5 b1).2];rfl
theorem Vi{t:I}(h:Dq m t=true):∃r c,1≤r∧r≤5∧1≤c∧c≤5∧Ax r c m∧Ax r c t:=by
 cases Wt m t with
 |bad1 _ e=>rw[e]at h;cases h
 |bad2 _ _ e=>rw[e]at h;cases h
 |ok r c r2 c2 _ _ a1 a2 a3 a4 a5 _ _ _ _ b5 e=>
  rw[e,Af,Ah,Ah]at h;obtain⟨rfl,rfl⟩:=h;exact⟨r,c,a1,a2,a3,a4,a5,b5⟩
theorem Sv(v:Value)(m:I)(b:Bool)(w:World)(hv:AI w v m)(hb:AC m=b):∀n,Calls prog 84 #[v] (w.drewN n) fun e w'=>e=.returned (.bool b)∧w'=w.drewN n:=
 fun n=>(B8 _ m (w.drewN n) (AI.keep hv (below_drewN (A6 _ _) n))).mono fun e w' ⟨he,hw⟩=>⟨by rw[he,hb],hw.symm⟩
theorem O1(v v2:Value)(m t:I)(w:World)(hv:AI w v m)(aS:AI w v2 t):Calls prog 98 #[v,v2] w fun e w'=>e=.returned (.bool (Dq m t))∧Below w.heap.size w w':=by
 cases Wt m t with
 |bad1 h1 e=>
  have fE:=Z (Sv v m false w hv h1);have He:=Z e;obtain⟨a,cap,rfl,-⟩:=hv;obtain⟨a2,cap2,rfl,-⟩:=aS;clear h1 e;go_enter func98,ntmps98;go_wp2;go_quiet ((first|(go_at_call 84;with_reducible exact Calls.quiet_of_same (fE.o _))));go_wp2
  go_ret
  exact⟨AW He.o.symm,below_drewN (A6 _ _) _⟩
 |bad2 h1 h2 e=>
  have fE:=Z (Sv v m true w hv h1);have iE:=Z (Sv v2 t false w aS h2);have He:=Z e;obtain⟨a,cap,rfl,-⟩:=hv;obtain⟨a2,cap2,rfl,-⟩:=aS;clear h1 h2 e;go_enter func98,ntmps98;go_wp2;go_quiet ((first|(go_at_call 84;with_reducible exact Calls.quiet_of_same (fE.o _))|(go_at_call 84;with_reducible exact Calls.quiet_of_same (iE.o _))));go_wp2
  go_ret
  exact⟨AW He.o.symm,below_drewN (A6 _ _) _⟩
 |ok r c r2 c2 h1 h2 a1 a2 a3 a4 a5 b1 b2 b3 b4 b5 e=>
  have fE:=Z (Sv v m true w hv h1);have iE:=Z (Sv v2 t true w aS h2);obtain⟨b,off,cp,rfl,hb,hm⟩:=hv.qaw a5.qap a1 a3;obtain⟨b',off2,cp2,rfl,af,hm2⟩:=aS.qaw b5.qap b1 b3;obtain⟨d1,o1,k1,hc1,-⟩:=hm 0 J;obtain⟨d2,o2,k2,cM,-⟩:=hm2 0 J;have hc1:=hc1 w (A6 _ _);have cM:=cM w (A6 _ _);rw[AF]at hc1 cM;have He:=Z e;clear h1 h2 e hv aS hm hm2 a5 b5;by_cases hr:r=r2
  ·subst hr;by_cases hc:c=c2
   ·subst hc;have Hr:=Z (show Dq m t=true from by rw[He.o];simp);go_enter func98,ntmps98;go_wp2;go_quiet ((first|(go_at_call 84;with_reducible exact Calls.quiet_of_same (fE.o _))|(go_at_call 84;with_reducible exact Calls.quiet_of_same (iE.o _))));go_wp2
    go_ret
    exact⟨AW Hr.o.symm,below_drewN (A6 _ _) _⟩
   ·have Hr:=Z (show Dq m t=false from by rw[He.o,decide_eq_false hc,Bool.and_false]);have oy:((c:Int)==(c2:Int))=false:=by rw[Ai];omega
    have zj:¬(c:Int)=(c2:Int):=J;go_enter func98,ntmps98;go_wp2;go_quiet ((first|(go_at_call 84;with_reducible exact Calls.quiet_of_same (fE.o _))|(go_at_call 84;with_reducible exact Calls.quiet_of_same (iE.o _))));go_wp2
    go_ret
    exact⟨AW Hr.o.symm,below_drewN (A6 _ _) _⟩
  ·have Hr:=Z (show Dq m t=false from by rw[He.o,decide_eq_false hr];rfl);have l8:((r:Int)==(r2:Int))=false:=by rw[Ai];omega
   have zk:¬(r:Int)=(r2:Int):=J;go_enter func98,ntmps98;go_wp2;go_quiet ((first|(go_at_call 84;with_reducible exact Calls.quiet_of_same (fE.o _))|(go_at_call 84;with_reducible exact Calls.quiet_of_same (iE.o _))));go_wp2
   go_ret
   exact⟨AW Hr.o.symm,below_drewN (A6 _ _) _⟩
def E8(m t:I):Bool:=Dq m t&&(decide (Ae m=Ae t)&&decide (Al m=Al t))
theorem NR(v v2:Value)(m t:I)(w:World)(hv:AI w v m)(aS:AI w v2 t):Calls prog 160 #[v,v2] w fun e w'=>e=.returned (.bool (E8 m t))∧Below w.heap.size w w':=by
 have Hv:=Z hv;have aY:=Z aS;obtain⟨a,cap,rfl,-⟩:=hv;obtain⟨a2,cap2,rfl,-⟩:=aS;have Hr:=Z (show E8 m t=(Dq m t&&(decide (Ae m=Ae t)&&decide (Al m=Al t)))from rfl);obtain⟨p,hp⟩:∃p,p=Dq m t:=⟨_,rfl⟩;obtain⟨q,hq⟩:∃q,q=decide (Ae m=Ae t):=⟨_,rfl⟩;obtain⟨s,hs⟩:∃s,s=decide (Al m=Al t):=⟨_,rfl⟩;rw[←hp,←hq,←hs]at Hr;have Hp:=Z hp;have Hq:=Z hq;have Hs:=Z hs;clear hp hq hs;go_enter func160,ntmps160;go_wp2_with fail;refine(O1 _ _ m t _ Hv.o aY.o).mono ?_;rintro e w1 ⟨rfl,b1⟩;rw[←Hp.o];cases p
 ·go_wp2
  go_ret
  exact⟨AW Hr.o.symm,b1⟩
 go_wp2_with fail;refine(Ei _ _ _ (Hv.o.keep b1)).mono ?_;rintro e w2 ⟨v3,rfl,o3,b2⟩;have cI:=b1.qaa b2 (A2 _);have cY:=Z o3.ints;clear o3;go_wp2_with fail;refine(Ei _ _ _ (aY.o.keep cI)).mono ?_;rintro e w3 ⟨v4,rfl,o4,b3⟩;have di:=cI.qaa b3 (A2 _);have fQ:=Z o4.ints;clear o4;go_wp2_with fail;refine(MV _ _ _ _ _ (cY.o.keep b3) fQ.o).mono ?_;rintro e w4 ⟨rfl,n4,hw4⟩;have b4:Below w3.heap.size w3 w4:=by rw[hw4];exact below_drewN (A6 _ _) n4
 clear hw4;rw[←Hq.o];have eu:=di.qaa b4 (A2 _);cases q
 ·go_wp2
  go_ret
  exact⟨AW Hr.o.symm,eu⟩
 go_wp2_with fail;refine(CQ 34 (.inl rfl) _ _ _ (Hv.o.keep eu)).mono ?_;rintro e w5 ⟨v5,rfl,o5,b5⟩;have fD:=eu.qaa b5 (A2 _);have ge:=Z o5.ints;clear o5;go_wp2_with fail;refine(CQ 34 (.inl rfl) _ _ _ (aY.o.keep fD)).mono ?_;rintro e w6 ⟨v6,rfl,o6,b6⟩;have jA:=fD.qaa b6 (A2 _);have lB:=Z o6.ints;clear o6;go_wp2_with fail;refine(MV _ _ _ _ _ (ge.o.keep b6) lB.o).mono ?_;rintro e w7 ⟨rfl,n7,hw7⟩;have b7:Below w6.heap.size w6 w7:=by rw[hw7];exact below_drewN (A6 _ _) n7
 clear hw7;rw[←Hs.o];have jW:=jA.qaa b7 (A2 _);go_wp2
 go_ret
 exact⟨AW Hr.o.symm,jW⟩
def kF(l:List Nat):Nat:=l.foldl (fun k b=>2*k+b) 0
theorem A0a(h:l[n]? =some b):kF (l.take (n+1))=2*kF (l.take n)+b:=by
 unfold kF;rw[Ao,h,List.foldl_append];rfl
theorem A4U(h:∀b∈l,b≤1):∀n,kF (l.take n)<2^n:=by
 intro n;induction n with
 |zero=>simp[kF]
 |succ n ih=>
  cases e:l[n]? with
  |none=>
   rw[Ao,e];simp only[Option.toList_none,List.append_nil];have:2^n≤2^(n+1):=Nat.pow_le_pow_right Jq J;omega
  |some b=>
   rw[A0a e,Nat.pow_succ];have:=h b (A4 e);omega
theorem A4h(l:List Nat):kF l=QS l:=by
 unfold kF;rw[YK];simp
theorem A1F{y:Nat}(g:I)(hy:y<r)(hx:x<c):(Ij r c g)[y*c+x]? =some (AJ g y x).toNat:=by
 have aF:y*c+x<r*c:=by
  have:(y+1)*c≤r*c:=Nat.mul_le_mul_right c hy;rw[Nat.add_mul,Nat.one_mul]at this;omega
 unfold Ij;rw[Ak,AA aF,Option.map_some,show(y*c+x) /c=y from by rw[Nat.mul_comm,Nat.mul_add_div J,Nat.div_eq_of_lt hx];rfl,show(y*c+x) % c=x from by rw[Nat.mul_comm,Nat.mul_add_mod,Nat.mod_eq_of_lt hx]]
theorem JM(v:Value)(m:I)(r c:Nat)(w:World)(hv:AI w v m)(hs:Ax r c m)(hr1:1≤r)(hr5:r≤5)(hc1:1≤c)(hc5:c≤5):Calls prog 161 #[v] w fun e w'=>e=.returned (.int .i64 (BN r c m))∧w=w':=by
 obtain⟨b,off,cp,rfl,hb,hm⟩:=hv.qaw hs.qap hr1 hc1;have Hm:=Z hm;have oF:=Z (show ∀n,n≤r*c→kF ((Ij r c m).take n)<33554432+1 from fun n hn=>by
  have h1:=A4U (NY hs) n;have h2:2^n≤2^25:=Nat.pow_le_pow_right Jq (Aj hn (Nat.mul_le_mul hr5 hc5));have h3:(2:Nat)^25=33554432:=Jq;omega)
 have aG:=Z (show ∀y x,y<r→x<c→kF ((Ij r c m).take (y*c+(x+1)))=2*kF ((Ij r c m).take (y*c+x))+(AJ m y x).toNat from fun y x hy hx=>A0a (A1F m hy hx));have iK:=Z (AS hs);have iW:=Z (show kF ((Ij r c m).take (r*c))=BN r c m from by rw[A9 (by rw[NZ];exact A2 _),A4h];rfl);obtain⟨F,hF⟩:∃F:Nat→Nat,F=fun n=>kF ((Ij r c m).take n):=⟨_,rfl⟩;have xN:=Z (show ∀n,n≤r*c→F n<33554433 from fun n hn=>by rw[hF];exact oF.o n hn);have HsF:=Z (show ∀y x,y<r→x<c→F (y*c+(x+1))=2*F (y*c+x)+(AJ m y x).toNat from fun y x hy hx=>by rw[hF];exact aG.o y x hy hx);have HeF:=Z (show F (r*c)=BN r c m from by rw[hF];exact iW.o);have H0F:=Z (show F (0*c)=0 from by rw[hF,Nat.zero_mul];rfl);clear hm hv hF oF aG iW;go_enter func161,ntmps161;go_wp2;go_loopw [3,5,7,10] (fun n _ _ i wr=>∃y:Nat,y≤r∧i=.int .i64 y∧n=.int .i64 (F (y*c):Nat)∧w=wr) (fun _ _ _ i _=>r-(intOf i).toNat);exact⟨0,A7 _,rfl,by rw[H0F.o];rfl,rfl⟩;obtain⟨y,hy,rfl,rfl,rfl⟩:=hrel;by_cases gV:y<r
 ·obtain⟨br,orr,cr,h1,h2⟩:=Hm.o y gV;have e1:=h1 w (A6 _ _);have H2:=Z h2;obtain⟨N0,lN⟩:∃N0,N0=F (y*c):=⟨_,rfl⟩;have HN0:=Z (show F (y*c+0)=N0 from by rw[lN];rfl);rw[←lN];clear h1 h2 lN;go_wp2;go_loopw [3,7,16] (fun n _ i wr=>∃x:Nat,x≤c∧i=.int .i64 x∧n=.int .i64 (F (y*c+x):Nat)∧w=wr) (fun _ _ i _=>c-(intOf i).toNat);exact⟨0,A7 _,rfl,by rw[HN0.o],rfl⟩;clear e1 HN0;obtain⟨x,hx,rfl,rfl,rfl⟩:=hrel;by_cases hxc:x<c
  ·have e2:=H2.o x hxc w (A6 _ _);have bB:=HsF.o y x gV hxc;have fR:=xN.o (y*c+x) (by
    have:(y+1)*c≤r*c:=Nat.mul_le_mul_right c gV;rw[Nat.add_mul,Nat.one_mul]at this;omega)
   have zl:=iK.o y x;obtain⟨D,hD⟩:∃D,D=AJ m y x:=⟨_,rfl⟩;rw[←hD]at e2 bB zl;obtain⟨K,hK⟩:∃K,K=F (y*c+x):=⟨_,rfl⟩;rw[←hK]at bB fR⊢;obtain⟨d,rfl⟩:∃d:Nat,D=d:=⟨D.toNat,J⟩;have bM:=Z (show((F (y*c+(x+1)):Nat):Int)=2*(K:Int)+(d:Int)from by rw[bB];push_cast;rfl);clear hD hK bB;go_wp2;go_roundw;exact⟨x+1,J,by go_num,by rw[bM.o]<;>go_num,by first|rfl|trivial⟩;exact Jv
  ·obtain rfl:x=c:=J;have Hsc:=Z (show F (y*x+x)=F ((y+1)*x)from by rw[Nat.add_mul,Nat.one_mul]);rw[Hsc.o];go_wp2;go_roundw;exact⟨y+1,J,by go_num,rfl,by first|rfl|trivial⟩;exact Jv
 ·obtain rfl:y=r:=J;rw[HeF.o];go_wp2
  go_ret
  exact⟨rfl,rfl⟩
theorem NI(v:Value)(m:I)(b:Bool)(w:World)(hv:AI w v m)(hb:AC m=b):∀n,Calls prog 138 #[v] (w.drewN n) fun e w'=>e=.returned (.bool b)∧w'=w.drewN n:=
 fun n=>(Bh _ m (w.drewN n) (AI.keep hv (below_drewN (A6 _ _) n))).mono fun e w' ⟨he,hw⟩=>⟨by rw[he,hb],hw.symm⟩
theorem Wk(v v2:Value)(m t:I)(w:World)(hv:AI w v m)(aS:AI w v2 t):Calls prog 205 #[v,v2] w fun e w'=>∃z:Int,e=.returned (.int .i64 z)∧(decide (z≥0)=Dq m t)∧Below w.heap.size w w':=by
 cases Wt m t with
 |bad1 h1 e=>
  have fE:=Z (NI v m false w hv h1);have He:=Z e;obtain⟨a,cap,rfl,-⟩:=hv;obtain⟨a2,cap2,rfl,-⟩:=aS;clear h1 e;go_enter func205,ntmps205;go_wp2;go_quiet ((first|(go_at_call 138;with_reducible exact Calls.quiet_of_same (fE.o _))));go_wp2
  go_ret
  exact⟨-1,rfl,by rw[He.o];rfl,below_drewN (A6 _ _) _⟩
 |bad2 h1 h2 e=>
  have fE:=Z (NI v m true w hv h1);have iE:=Z (NI v2 t false w aS h2);have He:=Z e;obtain⟨a,cap,rfl,-⟩:=hv;obtain⟨a2,cap2,rfl,-⟩:=aS;clear h1 h2 e;go_enter func205,ntmps205;go_wp2;go_quiet ((first|(go_at_call 138;with_reducible exact Calls.quiet_of_same (fE.o _))|(go_at_call 138;with_reducible exact Calls.quiet_of_same (iE.o _))));go_wp2
  go_ret
  exact⟨-1,rfl,by rw[He.o];rfl,below_drewN (A6 _ _) _⟩
 |ok r c r2 c2 h1 h2 a1 a2 a3 a4 a5 b1 b2 b3 b4 b5 e=>
  have fE:=Z (NI v m true w hv h1);have iE:=Z (NI v2 t true w aS h2);obtain⟨b,off,cp,rfl,hb,hm⟩:=hv.qaw a5.qap a1 a3;obtain⟨b',off2,cp2,rfl,af,hm2⟩:=aS.qaw b5.qap b1 b3;have Hm:=Z hm;have pD:=Z hm2;obtain⟨d1,o1,k1,hc1,-⟩:=hm 0 J;obtain⟨d2,o2,k2,cM,-⟩:=hm2 0 J;have hc1:=hc1 w (A6 _ _);have cM:=cM w (A6 _ _);rw[AF]at hc1 cM;have He:=Z e;clear h1 h2 e hv aS hm hm2 a5 b5;by_cases hr:r=r2
  ·subst hr;by_cases hc:c=c2
   ·subst hc;have Hr:=Z (show Dq m t=true from by rw[He.o];simp);go_enter func205,ntmps205;go_wp2;go_quiet ((first|(go_at_call 138;with_reducible exact Calls.quiet_of_same (fE.o _))|(go_at_call 138;with_reducible exact Calls.quiet_of_same (iE.o _))));clear hc1 cM;obtain⟨wz,hwz⟩:∃wz,wz=w.drewN nq:=⟨_,rfl⟩;have io:Below w.heap.size w wz:=by rw[hwz];exact below_drewN (A6 _ _) nq
    rw[←hwz];clear hwz;go_wp2;go_loopw [5,6,7,8,9,38] (fun n _ _ _ _ i wr=>∃(y z:Nat),y≤r∧i=.int .i64 y∧n=.int .i64 z∧z≤y*5∧wz=wr) (fun _ _ _ _ _ i _=>r-(intOf i).toNat);exact⟨0,0,A7 _,rfl,rfl,A2 _,rfl⟩;obtain⟨y,z,hy,rfl,rfl,hz,rfl⟩:=hrel;by_cases gV:y<r
    ·obtain⟨br,orr,cr,h1,h2⟩:=Hm.o y gV;obtain⟨bg,og,cg,h3,h4⟩:=pD.o y gV;have e1:=h1 wz io;have e2:=h3 wz io;have H2:=Z h2;have H4:=Z h4;clear h1 h2 h3 h4;go_wp2;go_loopw [5,8,9,45] (fun n _ _ i wr=>∃(x z2:Nat),x≤c∧i=.int .i64 x∧n=.int .i64 z2∧z2≤z+x∧wz=wr) (fun _ _ _ i _=>c-(intOf i).toNat);exact⟨0,z,A7 _,rfl,rfl,A2 _,rfl⟩;obtain⟨x,z2,hx,rfl,rfl,bQ,rfl⟩:=hrel;by_cases hxc:x<c
     ·have e3:=H2.o x hxc wz io;have e4:=H4.o x hxc wz io;obtain⟨D,hD⟩:∃D,AJ m y x=D:=⟨_,rfl⟩;obtain⟨X,hX⟩:∃X,AJ t y x=X:=⟨_,rfl⟩;rw[hD]at e3;rw[hX]at e4;clear hD hX;by_cases hDX:D=X
      ·subst hDX;go_wp2;go_roundw;exact⟨x+1,z2,J,by go_num,rfl,J,by first|rfl|trivial⟩;exact Jv
      ·have pI:(D==X)=false:=by rw[Ai];exact hDX
       go_wp2;go_roundw;exact⟨x+1,z2+1,J,by go_num,by go_num,J,by first|rfl|trivial⟩;exact Jv
     ·obtain rfl:x=c:=J;go_wp2;go_roundw;exact⟨y+1,z2,J,by go_num,rfl,J,by first|rfl|trivial⟩;exact Jv
    ·go_wp2
     go_ret
     exact⟨z,rfl,by rw[Hr.o,Ah];omega,io⟩
   ·have Hr:=Z (show Dq m t=false from by rw[He.o,decide_eq_false hc,Bool.and_false]);have oy:((c:Int)==(c2:Int))=false:=by rw[Ai];omega
    have zj:¬(c:Int)=(c2:Int):=J;go_enter func205,ntmps205;go_wp2;go_quiet ((first|(go_at_call 138;with_reducible exact Calls.quiet_of_same (fE.o _))|(go_at_call 138;with_reducible exact Calls.quiet_of_same (iE.o _))));go_wp2
    go_ret
    exact⟨-1,rfl,by rw[Hr.o];rfl,below_drewN (A6 _ _) _⟩
  ·have Hr:=Z (show Dq m t=false from by rw[He.o,decide_eq_false hr];rfl);have l8:((r:Int)==(r2:Int))=false:=by rw[Ai];omega
   have zk:¬(r:Int)=(r2:Int):=J;go_enter func205,ntmps205;go_wp2;go_quiet ((first|(go_at_call 138;with_reducible exact Calls.quiet_of_same (fE.o _))|(go_at_call 138;with_reducible exact Calls.quiet_of_same (iE.o _))));go_wp2
   go_ret
   exact⟨-1,rfl,by rw[Hr.o];rfl,below_drewN (A6 _ _) _⟩
theorem NX(v v2:Value)(m t:I)(w:World)(hv:AI w v m)(aS:AI w v2 t):Calls prog 271 #[v,v2] w fun e w'=>e=.returned (.bool (E8 m t))∧Below w.heap.size w w':=by
 have Hv:=Z hv;have aY:=Z aS;obtain⟨a,cap,rfl,-⟩:=hv;obtain⟨a2,cap2,rfl,-⟩:=aS;have Hr:=Z (show E8 m t=(Dq m t&&(decide (Ae m=Ae t)&&decide (Al m=Al t)))from rfl);obtain⟨p,hp⟩:∃p,p=Dq m t:=⟨_,rfl⟩;obtain⟨q,hq⟩:∃q,q=decide (Ae m=Ae t):=⟨_,rfl⟩;obtain⟨s,hs⟩:∃s,s=decide (Al m=Al t):=⟨_,rfl⟩;rw[←hp,←hq,←hs]at Hr;have Hp:=Z hp;have Hq:=Z hq;have Hs:=Z hs;clear hp hq hs;go_enter func271,ntmps271;go_wp2_with fail;refine(Wk _ _ m t _ Hv.o aY.o).mono ?_;rintro e w1 ⟨z,rfl,hz,b1⟩;rw[←Hp.o]at hz;cases p
 ·have bQ:¬(0:Int)≤z:=by rw[decide_eq_false_iff_not]at hz;exact hz
  have fF:decide ((0:Int)≤z)=false:=decide_eq_false bQ;go_wp2
  go_ret
  exact⟨AW Hr.o.symm,b1⟩
 have bQ:(0:Int)≤z:=by rw[Ah]at hz;exact hz
 have fF:decide ((0:Int)≤z)=true:=decide_eq_true bQ;go_wp2_with fail;refine(FSa _ _ _ (Hv.o.keep b1)).mono ?_;rintro e w2 ⟨v3,rfl,o3,b2⟩;have cI:=b1.qaa b2 (A2 _);have cY:=Z o3.ints;clear o3;go_wp2_with fail;refine(FSa _ _ _ (aY.o.keep cI)).mono ?_;rintro e w3 ⟨v4,rfl,o4,b3⟩;have di:=cI.qaa b3 (A2 _);have fQ:=Z o4.ints;clear o4;go_wp2_with fail;refine(Kt _ _ _ _ _ (cY.o.keep b3) fQ.o).mono ?_;rintro e w4 ⟨rfl,n4,hw4⟩;have b4:Below w3.heap.size w3 w4:=by rw[hw4];exact below_drewN (A6 _ _) n4
 clear hw4;rw[←Hq.o];have eu:=di.qaa b4 (A2 _);cases q
 ·go_wp2
  go_ret
  exact⟨AW Hr.o.symm,eu⟩
 go_wp2_with fail;refine(CQ 141 (.inr rfl) _ _ _ (Hv.o.keep eu)).mono ?_;rintro e w5 ⟨v5,rfl,o5,b5⟩;have fD:=eu.qaa b5 (A2 _);have ge:=Z o5.ints;clear o5;go_wp2_with fail;refine(CQ 141 (.inr rfl) _ _ _ (aY.o.keep fD)).mono ?_;rintro e w6 ⟨v6,rfl,o6,b6⟩;have jA:=fD.qaa b6 (A2 _);have lB:=Z o6.ints;clear o6;go_wp2_with fail;refine(Kt _ _ _ _ _ (ge.o.keep b6) lB.o).mono ?_;rintro e w7 ⟨rfl,n7,hw7⟩;have b7:Below w6.heap.size w6 w7:=by rw[hw7];exact below_drewN (A6 _ _) n7
 clear hw7;rw[←Hs.o];have jW:=jA.qaa b7 (A2 _);go_wp2
 go_ret
 exact⟨AW Hr.o.symm,jW⟩
theorem T4(v:Value)(m:I)(r c:Nat)(w:World)(hv:AI w v m)(hs:Ax r c m)(hr1:1≤r)(hc1:1≤c):Calls prog 272 #[v] w fun e w'=>e=.returned (.bool (decide (r≤4)&&decide (c≤4)))∧w=w':=by
 obtain⟨b,off,cp,rfl,hb,hm⟩:=hv.qaw hs.qap hr1 hc1;obtain⟨d1,o1,k1,hc,-⟩:=hm 0 J;have hc:=hc w (A6 _ _);rw[AF]at hc;clear hm hv;by_cases h1:r≤4
 ·have Hr:=Z (show(decide (r≤4)&&decide (c≤4))=decide ((c:Int)≤4)from by rw[decide_eq_true h1,Bool.true_and];exact decide_eq_decide.2 J);have h2:decide ((r:Int)≤4)=true:=by rw[Ah];omega
  go_enter func272,ntmps272;go_wp2
  go_ret
  exact⟨AW Hr.o.symm,rfl⟩
 ·have Hr:=Z (show(decide (r≤4)&&decide (c≤4))=false from by rw[decide_eq_false h1];rfl);have h2:decide ((r:Int)≤4)=false:=by rw[decide_eq_false_iff_not];omega
  have h3:¬(r:Int)≤4:=J;go_enter func272,ntmps272;go_wp2
  go_ret
  exact⟨by first|exact AW Hr.o.symm|rfl,rfl⟩
theorem Ur(v v2:Value)(gs:List I)(t:I)(w:World)(hv:Gv w v gs)(aS:AI w v2 t):Calls prog 274 #[v,v2] w fun e w'=>∃z:Int,e=.returned (.int .i64 z)∧((z=-1∧∀x∈gs,x≠t)∨∃k:Nat,z=k∧gs[k]? =some t)∧Below w.heap.size w w':=by
 have Hv:=Z hv;have aY:=Z aS;obtain⟨a,cap,rfl,-,cJ,-⟩:=hv;obtain⟨a2,cap2,rfl,-⟩:=aS;obtain⟨N,hN⟩:∃N,N=gs.length:=⟨_,rfl⟩;rw[←hN]at Hv cJ⊢;have HN:=Z hN;clear hN;go_enter func274,ntmps274;go_wp2;go_loopw [5,6,9] (fun _ _ i wr=>∃k:Nat,k≤N∧i=.int .i64 k∧Hid (∀(j:Nat)(x:I),j<k→gs[j]? =some x→x≠t)∧Hid (Below w.heap.size w wr)) (fun _ _ i _=>N-(intOf i).toNat);exact⟨0,A7 _,rfl,Z fun j x h=>absurd h (Nat.not_lt_zero _),Z (A6 _ _)⟩;obtain⟨k,hk,rfl,fW,Hb⟩:=hrel;by_cases aF:k<N
 ·obtain⟨x,hx⟩:∃x,gs[k]? =some x:=⟨_,A3 (by rw[←HN.o];exact aF)⟩;obtain⟨gb,go,gc,he,bz,-⟩:=Hv.o.qac (by rw[←HN.o];omega);obtain⟨rfl,-⟩:a=some ⟨gb,go,none⟩∧cap=gc:=by
   simp only[Value.slice.injEq]at he;exact⟨he.1,he.2.2⟩
  obtain⟨u,aW,hu⟩:=Sl.at Hv.o hx;have Hu:=Z (show AI w u x from hu);obtain⟨ua,uc,rfl,-⟩:=hu;have gy:=(Hb.o.cell (p:=⟨gb,go+k,none⟩) bz).trans aW;have Hx:=Z hx;clear hx he aW;go_wp2_with fail;refine(Nh _ _ x t _ (Hu.o.keep Hb.o) (aY.o.keep Hb.o)).mono ?_;rintro e w1 ⟨rfl,n1,hw1⟩;have b1:=Z (Hb.o.qaa (show Below _ _ w1 from by rw[hw1];exact below_drewN (A6 _ _) n1) (A2 _));clear hw1 gy;by_cases hxt:x=t
  ·rw[decide_eq_true hxt];have Hxt:=Z hxt;clear hxt;go_wp2
   go_ret
   exact⟨k,rfl,.inr ⟨k,rfl,by rw[Hx.o,Hxt.o]⟩,b1.o⟩
  ·rw[decide_eq_false hxt];have kC:=Z (show ∀(j:Nat)(y:I),j<k+1→gs[j]? =some y→y≠t from fun j y hj hy=>by
    by_cases h:j<k
    ·exact fW.o j y h hy
    ·obtain rfl:j=k:=J;rw[Hx.o]at hy;rw[←Option.some.inj hy];exact hxt)
   clear hxt;go_wp2;go_roundw;exact⟨k+1,J,by go_num,kC,b1⟩;exact Jv
 ·obtain rfl:k=N:=J;go_wp2
  go_ret
  exact⟨-1,rfl,.inl ⟨rfl,fun x hx=>by
   obtain⟨j,hj⟩:=List.getElem?_of_mem hx;exact fW.o j x (by have:=(A5.1 hj).1;rw[HN.o];exact this) hj⟩,Hb.o⟩
def DW(rows cols:U):Option I:=(Bt rows cols)[0]?
def Fk(rows cols:U)(p:I):Option I:=
 if p.length=rows.length∧(p.headD []).length=cols.length then Xk (fun m=>BR rows.length cols.length m p) (Bt rows cols)else none
theorem Ag.elem{α:Type}{R:CP α}(hR:LZ R){xs:List α}(h:Ag E R S w v xs){x:α}(hk:xs[k]? =some x):
  ∃g cap u,v=.slice (some ⟨g,0,none⟩) xs.length cap∧g<w.heap.size∧w.cell? ⟨g,k,none⟩=some u∧R S w u x:=by
 have au:=(A5.1 hk).1;obtain⟨g,cap,rfl,hg,ae,bz,-⟩:=h.qac J;obtain⟨-,-,-,-,T,u,hu,hr,hT,-⟩:=h.qal hR hk;exact⟨g,cap,u,rfl,bz,hu,hR.mono (fun b hb=>(hT b hb).1) hr⟩
theorem VR(v v2:Value)(xs ys:U)(w:World)(hv:Au w v xs)(aS:Au w v2 ys):Calls prog 47 #[v,v2] w (Nz w (DW xs ys)):=by
 go_enter func47,ntmps47;go_wp2_with fail;refine(El _ _ _ _ _ hv aS).mono ?_;rintro e w1 ⟨vo,rfl,o1,b1⟩;obtain⟨l,hl⟩:∃l,l=Bt xs ys:=⟨_,rfl⟩;rw[←hl]at o1;cases hk:l[0]? with
 |none=>
  have Hr:=Z (show DW xs ys=none from by unfold DW;rw[←hl];exact hk);obtain rfl:l=[]:=by
   cases l with
   |nil=>rfl
   |cons a t=>simp at hk
  clear hk hl;rcases o1.inv with⟨rfl,-⟩|⟨g,cap,rfl,-⟩
  ·go_wp2
   go_ret2
   exact⟨_,by rw[Hr.o];rfl,by rw[Hr.o];exact Ag.nil _ _ _ _,b1⟩
  ·go_wp2
   go_ret2
   exact⟨_,by rw[Hr.o];rfl,by rw[Hr.o];exact Ag.nil _ _ _ _,b1⟩
 |some m=>
  have Hr:=Z (show DW xs ys=some m from by unfold DW;rw[←hl];exact hk);have aZ:0<l.length:=(A5.1 hk).1;have aK:((l.length:Int)==0)=false:=by rw[Ai];omega
  obtain⟨g,cap,u,rfl,hg,hu,hr⟩:=o1.elem (Ab (Ab A8)) hk;obtain⟨t1,t2,t3,rfl⟩:=Ag.shape hr;have kZ:=Z hr;clear hk hl o1 hr;go_wp2
  go_ret2
  exact⟨_,by rw[Hr.o];rfl,by rw[Hr.o];exact kZ.o,b1⟩
theorem V7(v v2:Value)(xs ys:U)(w:World)(hv:Au w v xs)(aS:Au w v2 ys):Calls prog 127 #[v,v2] w (Nz w (DW xs ys)):=by
 have Hv:=Z hv;have aY:=Z aS;obtain⟨a,cap,rfl,-⟩:=hv;obtain⟨a2,cap2,rfl,-⟩:=aS;cases bK:BF xs ys
 ·have Hr:=Z (show DW xs ys=none from by unfold DW;rw[I7 bK];rfl);have dk:=Z bK;clear bK;go_enter func127,ntmps127;go_wp2_with fail;refine(DB _ _ _ _ _ Hv.o aY.o).mono ?_;rintro e w2 ⟨rfl,b2⟩;rw[dk.o];go_wp2
  go_ret2
  exact⟨_,by rw[Hr.o];rfl,by rw[Hr.o];exact Ag.nil _ _ _ _,b2⟩
 ·have hok:=FL bK;obtain⟨-,h2,h3,h4,-⟩:=BG hok;obtain⟨h5,h6⟩:=MF hok;have he:Bt xs ys=BP xs ys:=by rw[D6 hok,F2 hok]
  have aN:=OS hok;rw[←F2 hok]at aN;have fP:=Z aN;have aZ:0<(BP xs ys).length:=by
   have:=HH bK;rw[he]at this;exact List.length_pos_iff.2 this
  have Hr:=Z (show DW xs ys=(BP xs ys)[0]? from by unfold DW;rw[he]);have dk:=Z bK;clear hok bK aN he;go_enter func127,ntmps127;go_wp2_with fail;refine(DB _ _ _ _ _ Hv.o aY.o).mono ?_;rintro e w2 ⟨rfl,b2⟩;rw[dk.o];have bG:=Z (Pj xs ys (.slice none 0 0) (.slice none 0 0) (.slice a xs.length cap) (.slice a2 ys.length cap2) [] (fun _=>False) [] w2 h2 h3 h4 h5 h6 (fun _ h=>h.elim) (Ag.nil _ _ _ _)
   ⟨none,0,rfl,Jj,Jj,fun _=>rfl,fun h=>by simp at h⟩ ((Cd A8).mono (fun b hb=>⟨hb,fun h=>h⟩) (Hv.o.keep b2)) ((Cd A8).mono (fun b hb=>⟨hb,fun h=>h⟩) (aY.o.keep b2)) (by simpa using h2) (fun row hr=>by cases hr) (by have:=fP.o;simp;omega))
  clear h5 h6;go_wp2_with fail;refine(bG.o).mono ?_;rintro e w3 ⟨v3,S3,rfl,o3,k8,O3⟩;rw[List.nil_append,show(BP xs ys).map ([]++ ·)=BP xs ys from by simp]at o3;obtain⟨l,hl⟩:∃l,l=BP xs ys:=⟨_,rfl⟩;rw[←hl]at o3 Hr aZ;have hk:l[0]? =some l[0]:=A3 aZ;obtain⟨m,hm⟩:∃m,m=l[0]:=⟨_,rfl⟩;rw[←hm]at hk;rw[hk]at Hr;obtain⟨g,cap,u,rfl,hg,hu,hr⟩:=o3.elem (Ab (Ab A8)) hk;obtain⟨t1,t2,t3,rfl⟩:=Ag.shape hr;have kZ:=Z hr;have lm:=Z k8;have uL:=Z O3;have hs2:=b2.size;clear o3 k8 O3 bG hk hl hm hr;go_wp2
  go_ret2
  refine⟨_,by rw[Hr.o];rfl,?_,b2.qaa (uL.o.below (A2 _) fun _ h=>h.elim) (A2 _)⟩;rw[Hr.o];exact(Ab (Ab A8)).mono (fun b hb=>⟨by have:=(lm.o b hb).1;simp at this;omega,(lm.o b hb).2⟩) kZ.o
theorem WJ(w:World):(zeroValue 3).run prog w=.ok (.int .i64 0) w:=by kernel_rfl
theorem A0h(h:k<1073741824):(Lit.int .i64 (k:Int)).wf=true:=by
 simp[Lit.wf,IntKind.min,IntKind.max,IntKind.signed,IntKind.bits];omega
def Il(w:World)(b n:Nat)(f:Nat→Option Nat):Prop:=∃D:DataW Unit,w.ownsMap prog 3 (plainElem prog 3) b n D∧Maps.IsMap D∧
 ∀k:Nat,k<1073741824→Maps.has D (.int .i64 k)=(f k).isSome∧D.atKey (.int .i64 k) (.lit (.int .i64 0))=.lit (.int .i64 ((f k).getD 0:Nat))
theorem Il.made(w:World):Il (w.alloc (.map #[] 0)) w.heap.size 0 fun _=>none:=
 ⟨.map [],World.ownsMap_made w _ _ _,Maps.isMap_empty,fun _ _=>⟨rfl,Maps.atKey_of_not_has rfl _⟩⟩
theorem Il.lt(h:Il w b n f):b<w.heap.size:=by
 obtain⟨D,h1,-⟩:=h;exact h1.lt
theorem Il.same(h:Il w b n f)(hb:w'.heap[b]? =w.heap[b]?):Il w' b n f:=by
 obtain⟨D,⟨es,clock,h1,h2,h3,h4⟩,h5,h6⟩:=h;exact⟨D,⟨es,clock,hb.trans h1,h2,h3,h4⟩,h5,h6⟩
theorem Il.pure(h:Il w b n f)(hb:Below w.heap.size w w'):Il w' b n f:=h.same (hb.block b h.lt)
theorem Il.isMap(h:Il w b n f):∃es clock,w.heap[b]? =some (.map es clock):=by
 obtain⟨D,⟨es,clock,h1,-⟩,-⟩:=h;exact⟨es,clock,h1⟩
theorem Il.look(h:Il w b n f)(hk:k<1073741824):(Instr.lookup 145 (.map (some b)) (.int .i64 (k:Int)) false).run prog w=.ok (.int .i64 ((f k).getD 0:Nat)) w:=by
 obtain⟨D,h1,-,h3⟩:=h;obtain⟨c,hrun,bA,-⟩:=h1.lookup_int (Maps.int_keyed underlying3) underlying145 underlying3 (WJ w) (Maps.keyOf_int_mk underlying3 (A0h hk));rw[(h3 k hk).2]at bA;simp only[DataW.lit.injEq,Lit.int.injEq,true_and]at bA;rw[hrun,bA]
theorem Il.look_ok(h:Il w b n f)(hk:k<1073741824):(Instr.lookup 145 (.map (some b)) (.int .i64 (k:Int)) true).run prog w=.ok (.tuple #[.int .i64 ((f k).getD 0:Nat),.bool (f k).isSome]) w:=by
 obtain⟨D,h1,-,h3⟩:=h;obtain⟨v,ps,hrun,hv⟩:=h1.look_ok (Maps.int_keyed underlying3) underlying145 (WJ w) (plainElem_int underlying3 Jq) (Maps.keyOf_int_mk underlying3 (A0h hk));obtain⟨c,rfl,hc,-⟩:=plainElem_int_inv underlying3 hv;rw[(h3 k hk).2]at hc;simp only[Prod.mk.injEq,DataW.lit.injEq,Lit.int.injEq,true_and]at hc;rw[hrun,(h3 k hk).1,hc.1]
def YI(f:Nat→Option Nat)(k v:Nat):Nat→Option Nat:=fun j=>if j=k then some v else f j
theorem Il.store{v:Nat}(h:Il w b n f)(hk:k<1073741824)(hv:v<1073741824)(hn:n<1073741824):∃w',(Instr.mapUpdate 145 (.map (some b)) (.int .i64 (k:Int)) (.int .i64 (v:Int))).run prog w=.ok () w'∧Il w' b (n+1) (YI f k v)∧AO (fun x=>x=b) w w':=by
 obtain⟨D,h1,h2,h3⟩:=h;obtain⟨w',hrun,r1,r2⟩:=h1.update (Maps.int_keyed underlying3) underlying145 (Aa hn (by unfold maxLen;omega)) (Maps.keyOf_int_mk underlying3 (A0h hk)) (plainElem_int underlying3 (A0h hv));refine⟨w',hrun,⟨_,r1,h2.put _ _,fun j hj=>?_⟩,⟨r2.os,r2.tape,r2.output,r2.size,fun x hx hn=>r2.block x hx (fun e=>hn (Option.some.inj e))⟩⟩;have oG:WideAt.IsKeyLit (.int .i64 (k:Int)):=trivial;unfold YI;by_cases e:j=k
 ·subst e;rw[if_pos rfl,Maps.has_put_same h2 oG,Maps.atKey_put_same h2 oG];exact⟨rfl,rfl⟩
 ·rw[if_neg e];have aK:(Lit.int .i64 (j:Int))≠Lit.int .i64 (k:Int):=by
   intro h;simp only[Lit.int.injEq,true_and]at h;omega
  rw[Maps.has_put_other aK,Maps.atKey_put_other aK];exact h3 j hj
def Tg(n0:Nat)(w:World):Bk:=fun x=>x<n0∨(x<w.heap.size∧∃arr fz,w.heap[x]? =some (.cells arr 32 fz)∨w.heap[x]? =some (.cells arr 3 fz))
def O2(n0:Nat)(w:World)(v:Value)(g:I):Prop:=Sl (Sl Ap) (Tg n0 w) w v g
theorem O2.qbj(h:AI w v g)(hn:w.heap.size≤n0):O2 n0 w v g:=(Cd (Cd A8)).mono (fun _ hb=>.inl (Aa hb hn)) h
theorem O2.qag(h:O2 n0 w v g):AI w v g:=(Cd (Cd A8)).rd h
theorem O2.qbk(h:Ag 32 (Ag 3 Ap) S w v g):O2 n0 w v g:=by
 rcases h with⟨rfl,rfl⟩|⟨b,arr,rfl,hg,hh,h1,h2,h3,T,d5,hT2,hT3⟩
 ·exact⟨none,0,rfl,Jj,Jj,fun _=>rfl,fun h=>by simp at h⟩
 ·refine⟨_,_,rfl,h1,Aj h3 Jq,fun h=>by simp at h,fun _=>⟨b,0,rfl,.inr ⟨lt_of_block hh,arr,_,.inl hh⟩,fun k x hk=>?_⟩⟩;obtain⟨u,hu,hr⟩:=hT3 k x hk;refine⟨u,by rw[cell_of_row w b _ arr _ (0,0) hh,Nat.zero_add];exact hu,?_⟩;rcases hr with⟨rfl,rfl⟩|⟨b2,jD,rfl,lr,uM,sM,h22,h32,T2,hT12,hT22,hT32⟩
  ·exact⟨none,0,rfl,Jj,Jj,fun _=>rfl,fun h=>by simp at h⟩
  ·refine⟨_,_,rfl,sM,Aj h32 Jq,fun h=>by simp at h,fun _=>⟨b2,0,rfl,.inr ⟨lt_of_block uM,jD,_,.inr uM⟩,fun k2 x2 jp=>?_⟩⟩;obtain⟨u2,eO,eH⟩:=hT32 k2 x2 jp;exact⟨u2,by rw[cell_of_row w b2 _ jD _ (0,0) uM,Nat.zero_add];exact eO,eH⟩
theorem O2.only(h:O2 n0 w v g)(ho:AO T w w')(hT:∀x,T x→¬Tg n0 w x):O2 n0 w' v g:=by
 have bV:=(Cd (Cd A8)).inH h;have cO:∀x,(Tg n0 w x∧x<w.heap.size)→w'.heap[x]? =w.heap[x]? :=fun x hx=>ho.block x hx.2 (fun ht=>hT x ht hx.1);refine(Cd (Cd A8)).mono (fun x hx=>?_) ((Cd (Cd A8)).same cO bV);rcases hx.1 with h1|⟨h1,arr,fz,h2⟩
 ·exact .inl h1
 ·exact .inr ⟨Aa h1 ho.size,arr,fz,by rw[cO x hx];exact h2⟩
theorem O2.pure(h:O2 n0 w v g)(hb:Below w.heap.size w w'):O2 n0 w' v g:=h.only (AO.qaj hb fun _=>False) (fun _ hx=>hx.elim)
theorem not_img(hn:n0≤x)(h:w.heap[x]? =some (.cells arr E fz))(h1:E≠32)(h2:E≠3):¬Tg n0 w x:=by
 rintro(h3|⟨-,a2,f2,h3|h3⟩)
 ·omega
 ·rw[h]at h3;simp at h3;exact h1 h3.2.1
 ·rw[h]at h3;simp at h3;exact h2 h3.2.1
theorem QI(hn:n0≤b)(h:Il w b n f):¬Tg n0 w b:=by
 obtain⟨es,ck,h⟩:=h.isMap;rintro(h3|⟨-,a2,f2,h3|h3⟩)
 ·omega
 ·rw[h]at h3;simp at h3
 ·rw[h]at h3;simp at h3
structure FM(n0:Nat)(X:Bk)(w:World)(qv:Value)(gs:List I):Prop where
 q:∃us,Ag 31 PS (fun x=>n0≤x∧¬X x∧x<w.heap.size) w qv us∧us.length=gs.length∧∀(k:Nat)(u:Value)(g:I),us[k]? =some u→gs[k]? =some g→O2 n0 w u g
theorem FM.shape(h:FM n0 X w qv gs):∃a c,qv=.slice a gs.length c:=by
 obtain⟨us,h1,h2,-⟩:=h.q;rcases h1.inv with⟨rfl,rfl⟩|⟨g,cap,rfl,-⟩
 ·exact⟨none,0,by rw[←h2];rfl⟩
 ·exact⟨_,cap,by rw[h2]⟩
theorem FM.pure(h:FM n0 X w qv gs)(hb:Below w.heap.size w w'):FM n0 X w' qv gs:=by
 obtain⟨us,h1,h2,h3⟩:=h.q;exact⟨us,(Ab EW).mono (fun x hx=>⟨hx.1,hx.2.1,Aa hx.2.2 hb.size⟩) ((Ab EW).same (Ac hb fun x hx=>hx.2.2) h1),h2,fun k u g hu hg=>(h3 k u g hu hg).pure hb⟩
theorem FM.only(h:FM n0 X w qv gs)(ho:AO T w w')(hX:∀x,T x→X x)(hT:∀x,T x→¬Tg n0 w x):FM n0 X w' qv gs:=by
 obtain⟨us,h1,h2,h3⟩:=h.q;exact⟨us,(Ab EW).mono (fun x hx=>⟨hx.1,hx.2.1,Aa hx.2.2 ho.size⟩) (Ag.only EW h1 ho (fun x hx=>hx.2.2) (fun x hx ht=>hx.2.1 (hX x ht))),h2,fun k u g hu hg=>(h3 k u g hu hg).only ho hT⟩
theorem FM.at(h:FM n0 X w qv gs)(hk:gs[k]? =some g):∃b c u,qv=.slice (some ⟨b,0,none⟩) gs.length c∧b<w.heap.size∧w.cell? ⟨b,k,none⟩=some u∧O2 n0 w u g:=by
 obtain⟨us,h1,h2,h3⟩:=h.q;have au:=(A5.1 hk).1;rcases h1 with⟨rfl,rfl⟩|⟨b,arr,rfl,hS,hh,e1,e2,e3,T,t1,t2,t3⟩
 ·simp at h2;omega
 ·obtain⟨u,hu⟩:∃u,us[k]? =some u:=⟨_,A3 J⟩;obtain⟨u',hu',rfl,-⟩:=t3 k u hu;exact⟨b,arr.size,u',by rw[h2],lt_of_block hh,by rw[cell_of_row w b _ arr _ (0,0) hh];exact hu',h3 k u' g hu hk⟩
theorem FM.qan(h:FM n0 X w qv gs):Gv w qv gs:=by
 obtain⟨us,h1,h2,h3⟩:=h.q;exact In.list ⟨h2,fun k u g hu hg=>(h3 k u g hu hg).qag⟩ h1
theorem FM.qbl(h:FM n0 X w qv gs):∀x,qv.ownBlock=some x→n0≤x∧¬X x∧x<w.heap.size∧(∃arr,w.heap[x]? =some (.cells arr 31 (0,0)))∧¬Tg n0 w x:=by
 intro x hx;obtain⟨us,h1,h2,h3⟩:=h.q;have hS:=h1.qae x hx;rcases h1 with⟨rfl,rfl⟩|⟨b,arr,rfl,-,hh,-⟩
 ·simp[Value.ownBlock]at hx
 ·simp[Value.ownBlock]at hx;subst hx;exact⟨hS.1,hS.2.1,hS.2.2,⟨arr,hh⟩,not_img hS.1 hh Jq Jq⟩
def C4(w:World)(g:Nat)(ss:List Sw):Prop:=∃arr fz,w.heap[g]? =some (.cells arr 65 fz)∧∀(k:Nat)(s:Sw),ss[k]? =some s→∀(j:Nat)(u:Value),(G8 s)[j]? =some u→arr[k*4+j]? =some u
theorem C4.same{g:Nat}(h:C4 w g ss)(hb:w'.heap[g]? =w.heap[g]?):C4 w' g ss:=by
 obtain⟨arr,fz,h1,h2⟩:=h;exact⟨arr,fz,hb.trans h1,h2⟩
theorem C4.lt{g:Nat}(h:C4 w g ss):g<w.heap.size:=by
 obtain⟨arr,fz,h1,-⟩:=h;exact lt_of_block h1
theorem C4.pure{g:Nat}(h:C4 w g ss)(hb:Below w.heap.size w w'):C4 w' g ss:=h.same (hb.block g h.lt)
theorem C4.only{g:Nat}(h:C4 w g ss)(ho:AO T w w')(hn:¬T g):C4 w' g ss:=h.same (ho.block g h.lt hn)
theorem C4.cells{g:Nat}(h:C4 w g ss){s:Sw}(hk:ss[k]? =some s){j:Nat}{u:Value}(hj:(G8 s)[j]? =some u):w.cell? ⟨g,k*4+j,none⟩=some u:=by
 obtain⟨arr,fz,h1,h2⟩:=h;rw[cell_of_row w g _ arr _ fz h1];exact h2 k s hk j u hj
theorem C4.qav{g:Nat}(h:C4 w g ss)(hx:w.heap[x]? =some (.cells arr E fz))(hE:E≠65):g≠x:=by
 rintro rfl;obtain⟨jD,fz2,h1,-⟩:=h;rw[hx]at h1;simp at h1;exact hE h1.2.1
theorem Cw.blk{B:Nat}{l:List Sw}(h:Cw B w v l)(aK:0<l.length):∃g cap,v=.slice (some ⟨g,0,none⟩) l.length cap∧B≤g∧C4 w g l:=by
 obtain⟨hl,h5|⟨g,cap,cur,rfl,hB,hh,-,-,-,h9⟩⟩:=id h
 ·omega
 ·refine⟨g,cap,rfl,hB,cur,_,hh,fun k s hk j u hj=>?_⟩;have zm:j<4:=by have:=(A5.1 hj).1;simpa[G8]using this
  have au:=(A5.1 hk).1;have e:=R7 hk j zm;rw[←h9,List.getElem?_take,if_pos J,Array.getElem?_toList]at e;rw[e,hj]

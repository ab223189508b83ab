/- Base. -/
import Derived.Test.YthmocomfjgmjoaaGreatDoorQ35
namespace Go.Proofs.YthmocomfjgmjoaaGreatDoor
open Go.RowKit
variable {Bx:Nat}{O T:ByteArray}{a a':Value}{al:List ByteArray}{b b' c c':Value}{j:Nat}{k k':BU}{l:List ByteArray}{m m':I}{s w:ByteArray}{w3:World}{wd:ByteArray}{xs ys:U}
theorem A1d{r c:Nat}:∀(n:Nat){g h:I},Da xs ys r c g→Da xs ys r c h→BR r c g h≤n→∃p,CT r c g p h∧p.length≤n:=by
 intro n;induction n with
 |zero=>intro g h hg hh hd;rw[Rq hg.1 hh.1 hd];exact⟨[],rfl,A2 _⟩
 |succ n ih=>
  intro g h hg hh hd;by_cases aK:g=h
  ·rw[aK];exact⟨[],rfl,A7 _⟩
  rcases Su hg hh aK with⟨s,hs,aF⟩|⟨s,hs,aF⟩
  ·obtain⟨p,h1,h2⟩:=ih (DO hg hs) hh J;exact⟨s::p,⟨hs,h1⟩,by rw[An];omega⟩
  ·obtain⟨p,h1,h2⟩:=ih hg (DO hh hs) J;exact⟨p++[s],Dw.2 ⟨_,h1,IC hh.1 hs,Gn hh.1 hs⟩,by rw[Ad,List.length_singleton];omega⟩
theorem A0F{p q:List Sw}(h:sle p q):p.length≤q.length:=by
 rcases h with rfl|h|⟨h,-⟩
 ·exact A2 _
 ·omega
 ·omega
theorem A1O(m t:I):(Lg m t).size≤4000:=by
 unfold Lg
 split
 ·rename_i hx
  have h:=Classical.choose_spec hx;obtain⟨T,hT⟩:∃T,T=Classical.choose hx:=⟨_,rfl⟩;rw[←hT]at h⊢;cases hp:Ik m t
  ·rw[h.2 hp];decide
  ·obtain⟨W,hW,rfl⟩:=h.1 hp;obtain⟨-,r,c,ha,hr4,hc4⟩:=Mj hp;rw[ha.l1,ha.l2]at hW;have s1:=Dv ha.hs ha.hr1 ha.hr5 ha.hc1 ha.hc5;have s2:=Dv ha.hs2 ha.hr1 ha.hr5 ha.hc1 ha.hc5;rw[←ha.e1,←ha.e2]at s2;have hd:=(Gf c m t r).2;have h16:r*c≤4*4:=Nat.mul_le_mul hr4 hc4;obtain⟨q,hq,jf⟩:=A1d 16 s1 s2 J;have hl:=A0F (hW.2 q hq);have:=It (W:=W) J (La ha.hr5 ha.hc5 hW.1) W.length;omega
 ·decide
theorem J4(t:ByteArray):(BY t).size≤t.size+4:=by
 unfold BY
 split
 ·have:C7.size=4:=rfl;omega
 ·omega
theorem TB(m:I):(Cj m).size≤4000:=by
 unfold Cj
 split
 ·rename_i h
  obtain⟨r,c,h1,h2,h3,h4,hs⟩:=Az h;rw[hs.1,hs.head h1];obtain⟨a,b,d,e,-⟩:=KM hs h1 h2 h3 h4;have e1:(⟨#[32,114,111,119,115,32]⟩:ByteArray).size=6:=rfl;have e2:(⟨#[32,99,111,108,115,32]⟩:ByteArray).size=6:=rfl;have e3:(⟨#[32,117,110,105,113,117,101]⟩:ByteArray).size=7:=rfl;have e4:(⟨#[32,102,114,101,101,32]⟩:ByteArray).size=6:=rfl;unfold CF
  split<;>simp only[AR,e1,e2,e3,e4]<;>omega
 ·decide
theorem VC(xs ys:U):(Eh xs ys).size≤30:=Aj (Es _ _) (JU xs ys).bulk
theorem Yw{L:List I}(h:L.length≤1073741824):(CE ⟨#[59]⟩ (Ci L)).size≤1099511627776:=Aj (Es _ _) (IZ h)
theorem A06(m:I):EM ((Dt m).getD []):=by
 unfold Dt
 split
 ·rename_i h
  obtain⟨r,c,h1,h2,h3,h4,hs⟩:=Az h;rw[hs.1,hs.head h1];intro x hx;have:=(Nd hs h1 h2 h3 h4).1.2 x hx;have h5:r*c≤5*5:=Nat.mul_le_mul h2 h4;exact Cc.small J J
 ·intro x hx;simp at hx
theorem Q9(m:I):EM (Ae m):=by
 cases hm:AC m
 ·intro x hx;unfold Ae at hx;rw[hm]at hx;simp at hx
 ·obtain⟨r,c,h1,h2,h3,h4,hs⟩:=Az hm;exact(ND hs h1 h2 h3 h4).1
theorem Zw(xs ys:U):(FC xs ys).size≤1000:=by
 unfold FC
 split
 ·have e2:(⟨#[32]⟩:ByteArray).size=1:=rfl;have a:=Cq (Q9 (Gs xs ys (BW xs ys)));have b:=Cq (Q9 (Mq (Gs xs ys (BW xs ys))));have l1:=Fv (Gs xs ys (BW xs ys));have l2:=Fv (Mq (Gs xs ys (BW xs ys)));show(AK (Ae (Gs xs ys (BW xs ys)))++_++AK (Ae (Mq (Gs xs ys (BW xs ys))))).size≤1000;simp only[AR,e2];omega
 ·decide
theorem Z8{r c:Nat}{dx dy:Int}(hm:Ax r c m)(hd:0≤dx∧dx≤3∧-3≤dy∧dy≤3)(hc5:c≤5)(k:Nat):∀(l:U)(b:Int),k≤r→l.length=(Qh r c dx dy).toNat→LG b l→LG (b+5*k) (Ef m r c dx dy k l):=by
 induction k with
 |zero=>intro l b _ _ h;simpa[Ef]using h
 |succ k ih=>
  intro l b hk hl h;rw[Ef];obtain⟨h3,h4⟩:=YU hm hd (y:=r-(k+1)) J c l b (A2 _) hl h;have h5:=ih _ (b+c) J (by rw[h4];exact hl) h3;intro v hv;have:=h5 v hv;omega
theorem Xq(m:I)(dx dy:Int):EM (BQ m dx dy):=by
 unfold BQ
 split
 ·rename_i h
  obtain⟨r,c,h1,h2,h3,h4,hs⟩:=Az h.1;rw[hs.1,hs.head h1];have hu:=Z8 hs (FW h.2) h4 r (List.replicate (Qh r c dx dy).toNat 0) 0 (A2 _) (List.length_replicate ..) (fun v hv=>by rw[List.eq_of_mem_replicate hv];omega);intro x hx;have:=hu x hx;exact Cc.small J J
 ·intro x hx;cases hx
theorem QO(R C:I):(Cf R C).size≤2000:=by
 unfold Cf;have hl:=TD R C;have key:(Eu (DA R C)).size≤1100:=by
  have e1:(⟨#[32,115,111,108,117,116,105,111,110,115]⟩:ByteArray).size=10:=rfl;have e2:(⟨#[32]⟩:ByteArray).size=1:=rfl;unfold Eu
  split
  ·have:=CW (n:=0) J;simp only[AR,e1];omega
  ·rename_i x l e
   rw[e]at hl;have h1:=CW (n:=((x::l).length:Nat)) J;have h2:=F3 x;simp only[AR,e1,e2];omega
 have e3:(⟨#[32,108,111,103,105,99,97,108]⟩:ByteArray).size=8:=rfl
 split
 ·split
  ·rw[AR,e3];omega
  ·omega
 ·decide
theorem TE(h1:EM xs)(h2:EM ys)(l1:xs.length≤1048576)(l2:ys.length≤1048576):(Cy xs ys).size≤134217728:=by
 have a:=Cq h1;have b:=Cq h2;have w1:=OD xs ys;have i1:=Eo xs ys;have f1:=CW (n:=((Bt xs ys).length:Nat)) J;have f2:=CW (n:=Fq xs ys) J;have e1:(⟨#[114,111,119,115,32]⟩:ByteArray).size=5:=rfl;have e2:(⟨#[32,99,111,108,115,32]⟩:ByteArray).size=6:=rfl;have e3:(⟨#[32,105,109,97,103,101,115,32]⟩:ByteArray).size=8:=rfl;have e4:(⟨#[32,110,111,110,101,58,32,99,111,108,117,109,110,115,32]⟩:ByteArray).size=15:=rfl;have e5:(⟨#[32,110,111,110,101]⟩:ByteArray).size=5:=rfl;unfold Cy IU
 split
 ·split<;>simp only[AR,e1,e2,e3,e4]<;>omega
 ·simp only[AR,e1,e2,e5];omega
structure Z9(k:BU):Prop where
 sz:BL k
 ra:EM k.rows
 rb:EM k.cols
 cl:cells k.img≤1048576
def PQ(m:I):Prop:=m.length≤1048576∧(∀r∈m,r.length≤1048576)∧cells m≤1048576
theorem WQ{b:Nat}:∀{m:I},(∀r∈m,r.length≤b)→cells m≤m.length*b
 |[],_=>by simp[cells]
 |r::m,h=>by
  have h1:=h r Jj;have h2:=WQ (m:=m) fun x hx=>h x (by simp[hx]);have e:cells (r::m)=r.length+cells m:=by simp[cells]
  rw[e,An,Nat.add_mul];omega
theorem A08(h1:m.length≤1024)(h2:∀r∈m,r.length≤1024):PQ m:=
 ⟨J,fun r hr=>by have:=h2 r hr;omega,Aj (WQ h2) J⟩
theorem Le{r c:Nat}(h:Ax r c m)(hr:r≤1024)(hc:c≤1024):PQ m:=A08 (by rw[h.1];exact hr) fun x hx=>by rw[(h.2 x hx).1];exact hc
theorem R5{o:Option I}(h:Z9 k)(ho:∀m,o=some m→PQ m):Z9 (Fp k o).1∧(Fp k o).2.size≤1000:=by
 cases o with
 |none=>exact⟨h,by show C7.size≤1000;decide⟩
 |some m=>exact⟨⟨⟨(ho m rfl).1,(ho m rfl).2.1,h.sz.a,h.sz.b⟩,h.ra,h.rb,(ho m rfl).2.2⟩,F3 m⟩
theorem XC{y x v:Int}(h:Pa m y x v=some m'):PQ m':=by
 unfold Pa at h
 split at h
 ·rename_i hh
  injection h with h;subst h;obtain⟨h1,h2⟩:=hh;have hok:AC m=true:=by unfold N6 at h1;rw[Af]at h1;exact h1.1
  obtain⟨r,c,r1,r5,c1,c5,hs⟩:=Az hok;rw[J7 hs r1 hok,FB]at h1;have hv:=Bz.1 h2;exact Le (EA hs (y:=y.toNat) (x:=x.toNat) J hv.1 hv.2) J J
 ·cases h
theorem XX{a b c d:Int}(h:JS m a b c d=some m'):PQ m':=by
 unfold JS at h
 split at h
 ·rename_i hh
  injection h with h;subst h;have hok:AC m=true:=by unfold swG at hh;rw[Af]at hh;exact hh.1
  obtain⟨r,c',r1,r5,c1,c5,hs⟩:=Az hok;rw[Kf hs r1 hok]at hh;obtain⟨s,-,-,-,-,h5,h6⟩:=Sx hh;rw[h6];exact Le (Cu hs h5) J J
 ·cases h
theorem Yr:∀(rows w:U),∀r∈N4 rows w,r.length=w.length
 |[],_,r,h=>by simp[N4]at h
 |n::rows,w,r,h=>by
  rw[N4]at h;rcases List.mem_cons.1 h with rfl|h
  ·unfold DH;rw[ON]
  ·rw[Yr rows _ r h,Kp]
theorem Qv(_:BL k)(h:DU k.rows k.cols=some m):PQ m:=by
 unfold DU at h
 split at h
 ·rename_i he
  injection h with h;subst h;unfold BF at he;rw[Af]at he;obtain⟨-,b1,-,b2,-⟩:=BG he.1;exact A08 (by rw[OJ];omega) fun r hr=>by rw[Yr _ _ r hr];omega
 ·cases h
theorem Qk(_:BL k)(h:DW k.rows k.cols=some m):PQ m:=by
 unfold DW at h;have hm:=A4 h;have he:AT k.rows k.cols=true:=by
  cases hok:AT k.rows k.cols
  ·rw[GB hok]at hm;cases hm
  ·rfl
 obtain⟨-,b1,-,b2,-⟩:=BG he;exact Le (Iw m hm).1 J J
theorem KI(t:ByteArray):EM (AY t):=by
 unfold AY
 split
 ·intro x hx;cases hx
 ·split
  ·rename_i h
   unfold E9;intro x hx;obtain⟨p,hp,rfl⟩:=AE.1 hx;exact(Ey (Ar.1 h p hp)).2
  ·intro x hx;cases hx
theorem L3(t:ByteArray):(AY t).length≤t.size+1:=by
 unfold AY E9
 split
 ·simp
 ·split
  ·have:=EY t 44;rw[Ay];omega
  ·simp
theorem UZ{sep t:ByteArray}:∀{xs:List ByteArray},t∈xs→t.size+sep.size≤DC sep xs
 |x::r,h=>by
  rcases List.mem_cons.1 h with rfl|h
  ·simp only[DC];omega
  ·have:=UZ (sep:=sep) h;simp only[DC];omega
theorem Si{b:UInt8}{t:ByteArray}(h:t∈al):t.size+1≤(CE ⟨#[b]⟩ (wd::al)).size:=by
 have h1:=UZ (sep:=⟨#[b]⟩) h;have e:(⟨#[b]⟩:ByteArray).size=1:=rfl;have h2:=Ry ⟨#[b]⟩ al;have h3:(CE ⟨#[b]⟩ (wd::al)).size=(wd.data.toList++Lib.joinTail [b] (al.map (·.data.toList))).length:=by
  unfold CE;simp only[List.map_cons];rw[Lib.join_cons];rfl
 rw[h3,Ad];have h4:(Lib.joinTail [b] (al.map (·.data.toList))).length=DC ⟨#[b]⟩ al:=h2;omega
theorem MM(aO:AM s 32=wd::al)(aM:s.size≤1048576){t:ByteArray}(ht:t∈al):(AY t).length≤1048576:=by
 have h1:=I6 s 32;rw[aO]at h1;have h2:=Si (b:=32) (wd:=wd) ht;rw[h1]at h2;have:=L3 t;omega
theorem A1S(h:Z9 k)(w:ByteArray){t:ByteArray}(ht:BT t=true):Z9 (DS k w (AZ t)).1∧(DS k w (AZ t)).2.size≤4000:=by
 have hok:AC (AZ t)=true:=by unfold BT at ht;rw[Af]at ht;exact ht.2
 obtain⟨r,c,h1,h2,h3,h4,hs⟩:=Az hok;unfold DS
 split
 ·obtain⟨a,b⟩:=ND hs h1 h2 h3 h4;have l1:=Fv (AZ t);have l2:=Na (AZ t);have hf:=Le hs J J;exact⟨⟨⟨hf.1,hf.2.1,by show(Ae _).length≤_;omega,by show(Al _).length≤_;omega⟩,a,b,hf.2.2⟩,by show okB.size≤4000;decide⟩
 ·split
  ·exact⟨h,A1O _ _⟩
  ·split
   ·exact⟨h,by show C7.size≤4000;decide⟩
   ·rename_i x hx
    refine⟨h,?_⟩;obtain⟨a,b,d⟩:=YJ x (Wu hx);show(AD x++⟨#[32]⟩++AQ _:ByteArray).size≤4000;rw[AR];omega
theorem A3z(h:Z9 k)(w:ByteArray)(n:U):Z9 (Iq k w n).1∧(Iq k w n).2.size≤1000:=by
 unfold Iq
 split
 ·exact R5 h fun m hm=>XX hm
 ·split
  ·exact R5 h fun m hm=>XC hm
  ·split
   ·refine⟨h,?_⟩;show(if _ then C7 else AK _:ByteArray).size≤1000
    split
    ·decide
    ·have a:=Cq (Xq k.img (n.getD 0 0) (n.getD 1 0));have b:=KU k.img (n.getD 0 0) (n.getD 1 0);omega
   ·exact⟨h,by show Bq.size≤1000;decide⟩
theorem A2e(h:Z9 k)(s:ByteArray):Z9 (DI k s).1∧(DI k s).2.size≤2199023255552:=by
 have a1:=TB k.img;have a2:=J4 (Cj k.img);have b1:=Yw (Eo k.rows k.cols);have b2:=J4 (CE ⟨#[59]⟩ (Ci (Bt k.rows k.cols)));have c1:=Yw (PB k.rows k.cols);have c2:=J4 (CE ⟨#[59]⟩ (Ci (M2 k.rows k.cols)));have d1:=VC k.rows k.cols;have d2:=J4 (Eh k.rows k.cols);have e1:=Cq (A06 k.img);have e2:=Mb k.img;have f1:(if(BW k.rows k.cols).isSome=true then AK (GZ k.rows k.cols)++⟨#[32]⟩++AK (GY k.rows k.cols)else C7).size≤1000:=Zw k.rows k.cols;have g1:=QO (Fo k.img) (DV k.img);have g2:=J4 (Cf (Fo k.img) (DV k.img));obtain⟨rt,hrt⟩:∃rt,(if(BW k.rows k.cols).isSome=true then AK (GZ k.rows k.cols)++⟨#[32]⟩++AK (GY k.rows k.cols)else C7)=rt:=⟨_,rfl⟩;unfold DI;rw[hrt]at f1⊢
 repeat' split
 all_goals first
  |exact⟨h,by show(BY _).size≤_;omega⟩
  |exact⟨h,by show(AK _).size≤_;omega⟩
  |(have:=R5 h fun m hm=>Qv h.sz hm;exact⟨this.1,J⟩)
  |(have:=R5 h fun m hm=>Qk h.sz hm;exact⟨this.1,J⟩)
  |exact⟨h,Aj f1 Jq⟩
  |exact⟨h,by show Bq.size≤_;decide⟩
theorem A3h(h:Z9 k)(hs:s.size≤1048576):Z9 (Kj k s).1∧(Kj k s).2.size≤2199023255552:=by
 unfold Kj
 split
 ·exact⟨h,by show(⟨#[]⟩:ByteArray).size≤_;decide⟩
 ·split
  ·exact A2e h s
  ·unfold I5;obtain⟨wd,al,aO⟩:∃wd al,AM s 32=wd::al:=by
    have hp:=IL s 32;cases e:AM s 32 with
    |nil=>rw[e]at hp;simp at hp
    |cons wd al=>exact⟨wd,al,rfl⟩
   rw[aO];show Z9 (if _ then _ else _:BU×ByteArray).1∧(if _ then _ else _:BU×ByteArray).2.size≤_
   split
   ·split
    ·rename_i ht
     obtain⟨a,b⟩:=A1S h ((wd::al).getD 0 ⟨#[]⟩) ht;exact⟨a,J⟩
    ·exact⟨h,by show Bq.size≤_;decide⟩
   ·split
    ·rename_i hh
     match al,hh.1,aO with
     |[ta,tb],_,aO=>
      show Z9 (No k ta tb).1∧(No k ta tb).2.size≤_;unfold No
      split
      ·have l1:=MM aO hs (t:=ta) Jj;have l2:=MM aO hs (t:=tb) Jj;have:=TE (KI ta) (KI tb) l1 l2;exact⟨⟨⟨h.sz.m,h.sz.r,l1,l2⟩,KI ta,KI tb,h.cl⟩,by show(Cy _ _).size≤_;omega⟩
      ·exact⟨h,by show Bq.size≤_;decide⟩
    ·split
     ·obtain⟨a,b⟩:=A3z h ((wd::al).getD 0 ⟨#[]⟩) (((wd::al).drop 1).map Be);exact⟨a,J⟩
     ·exact⟨h,by show Bq.size≤_;decide⟩
noncomputable def Pf (st:BU×ByteArray) (s:ByteArray):BU×ByteArray:=
 ((Kj st.1 s).1,if(Kj st.1 s).2=ByteArray.empty then st.2 else st.2++(Kj st.1 s).2++⟨#[10]⟩)
def Ts:BU:=⟨[[0]],[0],[0]⟩
noncomputable def GL (l:List ByteArray):BU×ByteArray:=l.foldl Pf (Ts,ByteArray.empty)
theorem Qz(h:l[j]? =some s):GL (l.take (j+1))=Pf (GL (l.take j)) s:=by
 unfold GL;rw[Ao,h,List.foldl_append];rfl
theorem A3O:Z9 Ts:=⟨⟨Jq,Jq,Jq,Jq⟩,fun x hx=>by simp[Ts]at hx;subst hx;exact⟨Jq,Jq⟩,fun x hx=>by simp[Ts]at hx;subst hx;exact⟨Jq,Jq⟩,Jq⟩
noncomputable def Ie (text:ByteArray):ByteArray×Int:=if(Gy text).length≤40 then((GL (Gy text)).2,(Gy text).length)else(ByteArray.empty,-1)
theorem U0(h:CA s=true):Kj k s=(k,⟨#[]⟩):=by unfold Kj;rw[if_pos h]
theorem UN{x:ByteArray}(h:AM s 32=[x]):x=s:=by
 have:=I6 s 32;rw[h,KC]at this;exact this
theorem Yu(h:CA s=false)(aO:AM s 32=[s]):Kj k s=DI k s:=by
 unfold Kj;rw[if_neg (by rw[h];simp),if_pos (by rw[aO];rfl)]
theorem UB(h:CA s=false)(aO:AM s 32=wd::al)(aK:al≠[]):Kj k s=I5 k wd al:=by
 have h1:al.length≠0:=fun e=>aK (List.length_eq_zero_iff.1 e);unfold Kj;rw[if_neg (by rw[h];simp),if_neg (by rw[aO,An];omega),aO];rfl
theorem JT(h1:w≠Db)(h2:w≠Ej)(h3:w≠EH):Gh w=false:=by simp[Gh,h1,h2,h3]
theorem IE{t:ByteArray}(h:Gh w=true):I5 k w [t]=if BT t=true then DS k w (AZ t)else(k,Bq):=by
 unfold I5;rw[if_pos ⟨rfl,h⟩];rfl
theorem RB{a b:ByteArray}:I5 k Fy [a,b]=No k a b:=by
 unfold I5;rw[if_neg Jj,if_pos ⟨rfl,rfl⟩];rfl
theorem GJ(h1:al.length≠1∨Gh w=false)(h2:al.length≠2∨w≠Fy):I5 k w al=if al.all AX=true then Iq k w (al.map Be)else(k,Bq):=by
 unfold I5;rw[if_neg (by rintro⟨a,b⟩;rcases h1 with h|h;exact h a;rw[h]at b;cases b),if_neg (by rintro⟨a,b⟩;rcases h2 with h|h;exact h a;exact h b)]
theorem DK(h1:al.length≠1∨Gh w=false)(h2:al.length≠2∨w≠Fy)(h3:∀n:U,n.length=al.length→Iq k w n=(k,Bq)):I5 k w al=(k,Bq):=by
 rw[GJ h1 h2]
 split
 ·exact h3 _ (by rw[Ay])
 ·rfl
theorem Dp{n:U}(h1:w≠Cs∨n.length≠4)(h2:w≠EG∨n.length≠2)(h3:w≠Ec∨n.length≠2):Iq k w n=(k,Bq):=by
 unfold Iq;rw[if_neg (by rintro⟨a,b⟩;rcases h1 with h|h;exact h a;exact h b),if_neg (by rintro⟨a,b⟩;rcases h2 with h|h;exact h a;exact h b),if_neg (by rintro⟨a,b⟩;rcases h3 with h|h;exact h a;exact h b)]
theorem Vy(h:(BH al).length≠al.length):al.all AX=false:=by
 cases e:al.all AX
 ·rfl
 ·exact absurd (by rw[L4 e,Ay]) h
theorem Bn.of(h:AM s 32=wd::al)(aK:al≠[]):Bn s:=
 ⟨AN rfl (Fj h aK WF),AN rfl (Fj h aK Wb),AN rfl (Fj h aK VS),AN rfl (Fj h aK Zu),AN rfl (Fj h aK Wc),AN rfl (Fj h aK TR),AN rfl (Fj h aK Tu),AN rfl (Fj h aK To),AN rfl (Fj h aK TA)⟩
theorem Eg{n m:Nat}(h:n≠m):(((n:Nat):Int)==(m:Int))=false:=by simpa using(by omega:(n:Int)≠m)
theorem R2:Db≠Fy:=by decide+kernel
theorem OU:Db≠Cs:=by decide+kernel
theorem QL:Db≠EG:=by decide+kernel
theorem R1:Db≠Ec:=by decide+kernel
theorem Lw:Fy≠Db:=by decide+kernel
theorem Kk:Fy≠Cs:=by decide+kernel
theorem LR:Fy≠EG:=by decide+kernel
theorem LN:Fy≠Ej:=by decide+kernel
theorem M8:Fy≠EH:=by decide+kernel
theorem Mf:Fy≠Ec:=by decide+kernel
theorem JN:Cs≠Db:=by decide+kernel
theorem GC:Cs≠Fy:=by decide+kernel
theorem GW:Cs≠EG:=by decide+kernel
theorem Kg:Cs≠Ej:=by decide+kernel
theorem Kw:Cs≠EH:=by decide+kernel
theorem GP:Cs≠Ec:=by decide+kernel
theorem LD:EG≠Db:=by decide+kernel
theorem Jd:EG≠Fy:=by decide+kernel
theorem Fg:EG≠Cs:=by decide+kernel
theorem M3:EG≠Ej:=by decide+kernel
theorem Mh:EG≠EH:=by decide+kernel
theorem J6:EG≠Ec:=by decide+kernel
theorem QP:Ej≠Db:=by decide+kernel
theorem RN:Ej≠Fy:=by decide+kernel
theorem PZ:Ej≠Cs:=by decide+kernel
theorem SC:Ej≠EG:=by decide+kernel
theorem RZ:Ej≠Ec:=by decide+kernel
theorem QW:EH≠Db:=by decide+kernel
theorem Ss:EH≠Fy:=by decide+kernel
theorem Px:EH≠Cs:=by decide+kernel
theorem SJ:EH≠EG:=by decide+kernel
theorem S0:EH≠Ej:=by decide+kernel
theorem S1:EH≠Ec:=by decide+kernel
theorem Lu:Ec≠Db:=by decide+kernel
theorem J5:Ec≠Fy:=by decide+kernel
theorem Fa:Ec≠Cs:=by decide+kernel
theorem Gp:Ec≠EG:=by decide+kernel
theorem Mc:Ec≠Ej:=by decide+kernel
theorem LQ:Ec≠EH:=by decide+kernel
structure Ns(Bx:Nat)(w:World)(a b c:Value)(k:BU):Prop where
 blk:B9 w Bx #[a,b,c] 34
 own:Cx (fun x=>x≠Bx∧x<w.heap.size) w a b c k
theorem Ns.keep{w w':World}(h:Ns Bx w a b c k)(y:Below w.heap.size w w'):Ns Bx w' a b c k:=
 ⟨h.blk.keep y,(h.own.same (Ac y fun _ hx=>hx.2)).mono fun _ hx=>⟨hx.1,Aa hx.2 y.size⟩⟩
theorem Ns.next{w:World}(h:Ns Bx w a b c k)(y:Below w.heap.size w w3)(o:Cx (Iv w.heap.size w3.heap.size) w3 a' b' c' k'):
  Ns Bx ((((w3.setCell ⟨Bx,0,none⟩ a').setCell ⟨Bx,1,none⟩ b').setCell ⟨Bx,2,none⟩ c').alloc (.cells #[a',b',c'] 34)) a' b' c' k':=by
 have hl:=h.blk.lt;refine Ns.keep ⟨(h.blk.keep y).qaz,?_⟩ (Below.qab _ _);rw[GS];exact(o.same (fun x hx=>GE _ Bx a' b' c' x (by have:=hx.1;omega))).mono fun x hx=>⟨by have:=hx.1;omega,hx.2⟩
theorem Ns.below{B:Nat}{w0 w:World}(h:Ns Bx w a b c k)(hB:B≤Bx)(h0:Below B w0 w)(y:Below w.heap.size w w3):
  Below B w0 ((((w3.setCell ⟨Bx,0,none⟩ a').setCell ⟨Bx,1,none⟩ b').setCell ⟨Bx,2,none⟩ c').alloc (.cells #[a',b',c'] 34)):=by
 have hl:=h.blk.lt;have s3:=y.size;exact(Below.qaz (h0.trans (y.mono J)) hB _ _ _).alloc (by rw[GS];omega) _
structure A4z(O T:ByteArray):Prop where
 o:O.size≤1125899906842624
 t:T.size≤2199023255552
 tn:(T++⟨#[10]⟩:ByteArray).size≤2199023255553
 otn:(O++(T++⟨#[10]⟩):ByteArray).size≤4503599627370496
 ot:(O++T:ByteArray).size≤4503599627370496
 otn2:(O++T++⟨#[10]⟩:ByteArray).size≤4503599627370496
theorem A41(o:O.size≤1125899906842624)(t:T.size≤2199023255552):A4z O T:=by
 have e:(⟨#[10]⟩:ByteArray).size=1:=rfl;refine⟨o,t,?_,?_,?_,?_⟩<;>simp only[AR,e]<;>omega
theorem U4(h:l[j]? =some s)(h1:GL (l.take j)=(k,O))(h2:Kj k s=(k',T))(hT:T=ByteArray.empty):GL (l.take (j+1))=(k',O):=by
 rw[Qz h,h1];unfold Pf;dsimp only;rw[h2];dsimp only;rw[if_pos hT]
theorem UO(h:l[j]? =some s)(h1:GL (l.take j)=(k,O))(h2:Kj k s=(k',T))(hT:T≠ByteArray.empty):GL (l.take (j+1))=(k',O++T++⟨#[10]⟩):=by
 rw[Qz h,h1];unfold Pf;dsimp only;rw[h2];dsimp only;rw[if_neg hT]
structure UF(ls:List ByteArray)(Bx:Nat)(w:World)(a b c:Value)(j:Nat)(O:ByteArray)(k:BU):Prop where
 st:Ns Bx w a b c k
 at_:GL (ls.take j)=(k,O)
 sk:Z9 k
 so:O.size≤4398046511104*j
theorem UF.start{w1 w2:World}(ls:List ByteArray)(o:Cx (Iv w1.heap.size w2.heap.size) w2 a b c Ts):UF ls w2.heap.size (w2.alloc (.cells #[a,b,c] 34)) a b c 0 ByteArray.empty Ts:=
 ⟨⟨B9.new w2 _ _,(o.same (Ac (Below.qab w2 _) fun _ hx=>hx.2)).mono fun x hx=>⟨by have:=hx.2;omega,by have:=hx.2;simp;omega⟩⟩,rfl,A3O,Jj⟩

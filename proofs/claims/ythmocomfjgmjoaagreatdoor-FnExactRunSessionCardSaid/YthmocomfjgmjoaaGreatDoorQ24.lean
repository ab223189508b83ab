/- Base. -/
import Derived.Test.YthmocomfjgmjoaaGreatDoorQ14
import Derived.Test.YthmocomfjgmjoaaGreatDoorQ17
set_option maxHeartbeats 2000000
set_option maxRecDepth 100000
namespace Go.Proofs.YthmocomfjgmjoaaGreatDoor
open Go.RowKit Go.Proofs.Tryz
variable {w:World}{xs ys:U}
theorem Sl.upto{α:Type}{R:CP α}{S:Bk}{a:Option Addr}{n cap:Nat}{l:List α}(h:Sl R S w (.slice a n cap) l){k:Nat}(hk:k≤l.length):Sl R S w (.slice a k cap) (l.take k):=by
 obtain⟨a',cap',he,h1,h2,h3,h4⟩:=h;injection he with e1 e2 e3;subst e1 e2 e3;have hl:(l.take k).length=k:=by rw[At];omega
 refine⟨a,cap,by rw[hl],J,J,h3,fun h0=>?_⟩;obtain⟨b,off,rfl,hb,hc⟩:=h4 J;refine⟨b,off,rfl,hb,fun j x hj=>?_⟩;rw[List.getElem?_take]at hj
 split at hj
 ·exact hc j x hj
 ·exact absurd hj Jj
def Gy(s:ByteArray):List ByteArray:=
 if(AM s 10).getD ((AM s 10).length-1) ⟨#[]⟩=⟨#[]⟩then(AM s 10).take ((AM s 10).length-1)else AM s 10
theorem RE(s:ByteArray):(Gy s).length≤s.size+1:=by
 have:=EY s 10;unfold Gy
 split
 ·rw[At];omega
 ·exact this
theorem Qj(s:ByteArray):∀p∈Gy s,p.size≤s.size:=by
 intro p hp;unfold Gy at hp
 split at hp
 ·exact CZ s 10 p (List.mem_of_mem_take hp)
 ·exact CZ s 10 p hp
def A4e(w:World)(xs:List ByteArray):Ending→World→Prop:=fun e w'=>∃v,e=.returned v∧CX w' v xs∧Below w.heap.size w w'
theorem OO(F0:Nat)(eS:F0=10∨F0=57)(s:ByteArray)(w:World)(hs:s.size≤1048576):Calls prog F0 #[.string s] w (A4e w (Gy s)):=by
 rcases eS with rfl|rfl
 all_goals
  have aZ:=IL s 10;have aN:=EY s 10
  first|go_enter func10,ntmps10|go_enter func57,ntmps57
  go_wp2_with fail
  first|(go_at_call 25;refine(Do s 10 _ hs).mono ?_)|(refine(FD s 10 _ hs).mono ?_)
  rintro e w2 ⟨v2,rfl,o2,b2⟩;obtain⟨xs,eX⟩:∃xs,xs=AM s 10:=⟨_,rfl⟩;rw[←eX]at o2 aZ aN;have hL:Gy s=if xs.getD (xs.length-1) ⟨#[]⟩=⟨#[]⟩then xs.take (xs.length-1)else xs:=by rw[eX];rfl
  have HL:=Z hL;have bB:CX w2 v2 xs:=o2.strs;obtain⟨a,cap,rfl,-⟩:=id bB;obtain⟨b,off,cpr,he,hb,ae⟩:=bB.qac aZ;obtain⟨rfl,rfl⟩:a=some ⟨b,off,none⟩∧cap=cpr:=by simpa using he
  have dc:xs.length-1≤cap:=J;obtain⟨u,hu,hr⟩:=Sl.at bB (BO (⟨#[]⟩:ByteArray) (by omega:xs.length-1<xs.length));obtain⟨rfl,-⟩:=hr;obtain⟨last,iC⟩:∃last,last=xs.getD (xs.length-1) ⟨#[]⟩:=⟨_,rfl⟩;rw[←iC]at hu HL;have aG:=Z bB;have be:=Z b2;have e1:((xs.length:Int)-1).toNat=xs.length-1:=J;clear bB b2 o2 hL iC he eX;by_cases hem:last=⟨#[]⟩
  ·have Hr:=Z (show Gy s=xs.take (xs.length-1)from by rw[HL.o,if_pos hem]);subst hem;go_wp2
   go_ret
   exact⟨_,rfl,by rw[Hr.o];exact Sl.upto aG.o J,be.o⟩
  ·have Hr:=Z (show Gy s=xs from by rw[HL.o,if_neg hem]);have aK:last.toList.isEmpty=false:=by
    rw[ByteArray.toList_eq];cases h:last.data.toList with
    |nil=>exact absurd (DX (by rw[h])) hem
    |cons a l=>rfl
   clear hem;go_wp2
   go_ret
   exact⟨_,rfl,by rw[Hr.o];exact aG.o,be.o⟩
def VD(w:World)(xs ys:U)(p:I)(e:Ending)(w':World):Prop:=
 ∃v n,e=.returned (.tuple #[v,.int .i64 n,.bool (Fk xs ys p).isSome])∧Ag 32 (Ag 3 Ap) (Iv w.heap.size w'.heap.size) w' v ((Fk xs ys p).getD [])∧(∀x,Fk xs ys p=some x→n=BR xs.length ys.length x p)∧Below w.heap.size w w'
theorem IA{w':World}{p:I}(h:Fk xs ys p=none)(hb:Below w.heap.size w w'):VD w xs ys p (.returned (.tuple #[.slice none 0 0,.int .i64 0,.bool false])) w':=
 ⟨.slice none 0 0,0,by rw[h];rfl,by rw[h];exact Ag.nil _ _ _ _,(fun x hx=>by rw[h]at hx;cases hx),hb⟩
theorem Yy{m:I}(h:m∈Bt xs ys):AT xs ys=true∧Ax xs.length ys.length m:=by
 cases hok:AT xs ys
 ·rw[GB hok]at h;cases h
 ·rw[D6 hok]at h;exact⟨rfl,((Dy hok m).1 h).1⟩
theorem Rv(v v2 v3:Value)(xs ys:U)(p:I)(r c:Nat)(w:World)(hv:Au w v xs)(aS:Au w v2 ys)(j5:AI w v3 p)(hs:Ax r c p)(hr1:1≤r)(hr5:r≤5)(hc1:1≤c)(hc5:c≤5):
  Calls prog 41 #[v,v2,v3] w (VD w xs ys p):=by
 have il:=Z j5;have dG:=Eo xs ys;obtain⟨a3,cap3,rfl,-⟩:=j5;obtain⟨L,hL⟩:∃L,L=Bt xs ys:=⟨_,rfl⟩;rw[←hL]at dG;have HL:=Z hL;go_enter func41,ntmps41;go_wp2_with fail;refine(El _ _ _ _ _ hv aS).mono ?_;rintro e w1 ⟨vo,rfl,o1,b1⟩;rw[←hL]at o1;cases ap:L[0]? with
 |none=>
  have sE:L=[]:=by
   cases L with
   |nil=>rfl
   |cons a t=>simp at ap
  have Hn:=Z (show Fk xs ys p=none from by
   unfold Fk;rw[←hL,sE]
   split<;>rfl)
  subst sE;clear ap hL;rcases o1.inv with⟨rfl,-⟩|⟨g,cap,rfl,-⟩
  ·go_wp2;exact Jz #[.slice none 0 0,.int .i64 0,.bool false] (by simp[results,results41,go_sem]) (IA Hn.o b1)
  ·go_wp2;exact Jz #[.slice none 0 0,.int .i64 0,.bool false] (by simp[results,results41,go_sem]) (IA Hn.o b1)
 |some m0=>
  have aZ:0<L.length:=(A5.1 ap).1;have ed:=Z (show ∀m∈L,AT xs ys=true∧Ax xs.length ys.length m from fun m hm=>Yy (hL▸hm));obtain⟨hok,fZ⟩:=ed.o m0 (A4 ap);obtain⟨bj,jU,dU,kq,-⟩:=BG hok;have aM:Dq m0 p=(decide (xs.length=r)&&decide (ys.length=c)):=by
   unfold Dq;rw[fZ.ok bj jU dU kq,hs.ok hr1 hr5 hc1 hc5,(DF fZ bj).1,(DF fZ bj).2,(DF hs hr1).1,(DF hs hr1).2];rfl
  have lD:=DF hs hr1;have aK:((L.length:Int)==0)=false:=by rw[Ai];omega
  obtain⟨gl,capl,u0,rfl,bz,eK,hru0⟩:=o1.elem (Ab (Ab A8)) ap;have Hu0:=Z (Ag.qag hru0);obtain⟨t1,t2,t3,rfl⟩:=Ag.shape hru0;have fS:=Z o1;have Hk0:=Z ap;have dm:=Z b1;by_cases cW:xs.length=r∧ys.length=c
  ·have bX:=Z (show Dq m0 p=true from by rw[aM];simp[cW.1,cW.2]);obtain⟨F,hF⟩:∃F,F=FE (fun m=>BR xs.length ys.length m p) L m0:=⟨_,rfl⟩;have qT:=Z (show Fk xs ys p=some F from by
    unfold Fk;rw[if_pos ⟨by rw[lD.1,cW.1],by rw[lD.2,cW.2]⟩,←hL,hF];cases L with
    |nil=>simp at ap
    |cons a t=>
     obtain rfl:a=m0:=by simpa using ap
     rw[Vr];rfl)
   have sF:=Z cW.1;have sG:=Z cW.2;have HF0:Hid (FE (fun m=>BR xs.length ys.length m p) (L.drop 0) m0=F):=Z (by rw[List.drop_zero,hF]);obtain⟨N,hN⟩:∃N,N=L.length:=⟨_,rfl⟩;rw[←hN]at aZ aK dG⊢;have HN:=Z hN;have yY:=Z eK;clear aM lD o1 ap b1 cW hF hN hL fZ hok hru0;go_wp2_with fail;refine(O1 _ _ m0 p _ Hu0.o (il.o.keep dm.o)).mono ?_;rintro e w2 ⟨rfl,b2⟩;rw[bX.o];have eO:=(b2.cell (p:=⟨gl,0,none⟩) bz).trans eK;have be:=Z b2;clear b2 eK;go_wp2;clear eO;go_loopw [11,13,36] (fun bv _ i wr=>∃(k ib:Nat)(b:I),k≤N∧i=.int .i64 k∧Hid (L[ib]? =some b∧w1.cell? ⟨gl,ib,none⟩=some bv)∧Hid (FE (fun m=>BR xs.length ys.length m p) (L.drop k) b=F)∧Hid (Below w1.heap.size w1 wr)) (fun _ _ i _=>N-(intOf i).toNat);exact⟨0,0,m0,A7 _,rfl,Z ⟨Hk0.o,yY.o⟩,HF0,be⟩;clear be;obtain⟨k,ib,b,hk,rfl,Hib,HFk,Hb⟩:=hrel;obtain⟨gl',capl',ub,heb,-,lE,hrub⟩:=fS.o.elem (Ab (Ab A8)) Hib.o.1;obtain rfl:gl=gl':=by injection heb with h1;injection h1 with h1;injection h1
   obtain rfl:u11=ub:=Option.some.inj (Hib.o.2.symm.trans lE);have Hub:=Z (Ag.qag hrub);have qU:=Z hrub;obtain⟨s1,s2,s3,rfl⟩:=Ag.shape hrub;have lF:=(ed.o b (A4 Hib.o.1)).2;rw[sF.o,sG.o]at lF;clear lE hrub heb;by_cases aF:k<N
   ·obtain⟨m,hm⟩:∃m,L[k]? =some m:=⟨_,A3 (by rw[←HN.o];exact aF)⟩;have sH:=(ed.o m (A4 hm)).2;rw[sF.o,sG.o]at sH;obtain⟨gl',capl',um,hem,-,hum,hrum⟩:=fS.o.elem (Ab (Ab A8)) hm;obtain rfl:gl=gl':=by injection hem with h1;injection h1 with h1;injection h1
    have mE:=Z (Ag.qag hrum);obtain⟨q1,q2,q3,rfl⟩:=Ag.shape hrum;have pD:=Z (show L[k]? =some m∧w1.cell? ⟨gl,k,none⟩=some (.slice q1 q2 q3)from⟨hm,hum⟩);have qV:=(Hb.o.cell (p:=⟨gl,k,none⟩) bz).trans hum;have aG:=Z (Me (d:=fun m=>BR xs.length ys.length m p) (b:=b) hm);obtain⟨D1,hD1⟩:∃D,D=BR r c m p:=⟨_,rfl⟩;obtain⟨D2,pI⟩:∃D,D=BR r c b p:=⟨_,rfl⟩;have nk:=Z hD1;have yZ:=Z pI;have nl:=Z (show(BR xs.length ys.length m p<BR xs.length ys.length b p)↔D1<D2 from by rw[sF.o,sG.o,hD1,pI]);clear hm hem hum hrum hD1 pI;go_wp2_with fail;refine(KZ _ _ m p r c _ (mE.o.keep Hb.o) (il.o.keep (dm.o.qaa Hb.o (A2 _))) sH hs hr1 hr5 hc1 hc5).mono ?_;rintro e w3 ⟨rfl,b3⟩;rw[←nk.o];have bN:=Z (Hb.o.qaa b3 (A2 _));clear b3 qV;go_wp2_with fail;refine(KZ _ _ b p r c _ (Hub.o.keep bN.o) (il.o.keep (dm.o.qaa bN.o (A2 _))) lF hs hr1 hr5 hc1 hc5).mono ?_;rintro e w4 ⟨rfl,b4⟩;rw[←yZ.o];have eN:=Z (bN.o.qaa b4 (A2 _));clear b4;by_cases hd:D1<D2
    ·have lG:decide (D1<D2)=true:=by simpa using hd
     have y8:=Z (show FE (fun m=>BR xs.length ys.length m p) (L.drop (k+1)) m=F from by
      have h:=HFk.o;rw[aG.o,if_pos (nl.o.2 hd)]at h;exact h)
     clear hd;go_wp2;go_roundw;exact⟨k+1,k,m,J,by go_num,pD,y8,eN⟩;exact Jv
    ·have lG:decide (D1<D2)=false:=by simpa using hd
     have y8:=Z (show FE (fun m=>BR xs.length ys.length m p) (L.drop (k+1)) b=F from by
      have h:=HFk.o;rw[aG.o,if_neg (fun h=>hd (nl.o.1 h))]at h;exact h)
     clear hd;go_wp2;go_roundw;exact⟨k+1,ib,b,J,by go_num,Hib,y8,eN⟩;exact Jv
   ·have hbF:b=F:=by
     have h:=HFk.o;rw[List.drop_of_length_le (by rw[←HN.o];omega)]at h;exact h
    have xN:=Z hbF;clear hbF;go_wp2_with fail;refine(KZ _ _ b p r c _ (Hub.o.keep Hb.o) (il.o.keep (dm.o.qaa Hb.o (A2 _))) lF hs hr1 hr5 hc1 hc5).mono ?_;rintro e w3 ⟨rfl,b3⟩;obtain⟨D2,pI⟩:∃D,D=BR r c b p:=⟨_,rfl⟩;rw[←pI];have yZ:=Z pI;have bN:=Z (Hb.o.qaa b3 (A2 _));clear b3 pI;go_wp2;refine Jz #[.slice s1 s2 s3,.int .i64 D2,.bool true] (by simp[results,results41,go_sem]) ⟨_,_,by rw[qT.o];rfl,?_,?_,dm.o.qaa bN.o (A2 _)⟩
    ·rw[qT.o];show Ag _ _ _ _ _ F;rw[←xN.o];exact(Ab (Ab A8)).mono (fun x hx=>⟨hx.1,Aa hx.2 bN.o.size⟩) (Ag.keep (Ab A8) qU.o bN.o (A2 _))
    ·intro x hx;rw[qT.o]at hx;rw[←Option.some.inj hx,←xN.o,yZ.o,sF.o,sG.o]
  ·have bX:=Z (show Dq m0 p=false from by
    rw[aM,Bool.and_eq_false_iff,decide_eq_false_iff_not,decide_eq_false_iff_not];by_cases h1:xs.length=r
    ·exact .inr fun h=>cW ⟨h1,h⟩
    ·exact .inl h1)
   have Hn:=Z (show Fk xs ys p=none from by
    unfold Fk;rw[if_neg (fun h=>cW ⟨by rw[←h.1,lD.1],by rw[←h.2,lD.2]⟩)])
   clear aM lD o1 ap b1 cW hL fZ hok hru0;go_wp2_with fail;refine(O1 _ _ m0 p _ Hu0.o (il.o.keep dm.o)).mono ?_;rintro e w2 ⟨rfl,b2⟩;rw[bX.o];have be:=Z (dm.o.qaa b2 (A2 _));clear b2;go_wp2;exact Jz #[.slice none 0 0,.int .i64 0,.bool false] (by simp[results,results41,go_sem]) (IA Hn.o be.o)

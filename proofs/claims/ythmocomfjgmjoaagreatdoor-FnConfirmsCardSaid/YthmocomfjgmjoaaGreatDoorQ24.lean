/- Base. -/
import Derived.Test.YthmocomfjgmjoaaGreatDoorQ14
import Derived.Test.YthmocomfjgmjoaaGreatDoorQ17
set_option maxHeartbeats 2000000
set_option maxRecDepth 100000
namespace Go.Proofs.YthmocomfjgmjoaaGreatDoor
open Go.RowKit
theorem Sl.upto{α:Type}{R:CG α}{S:Bk}{w:World}{a:Option Addr}{n cap:Nat}{l:List α}(h:Sl R S w (.slice a n cap) l){k:Nat}(hk:k≤l.length):Sl R S w (.slice a k cap) (l.take k):=by
 obtain⟨a',cap',he,h1,h2,h3,h4⟩:=h;injection he with e1 e2 e3;subst e1 e2 e3;have hl:(l.take k).length=k:=by rw[List.length_take];omega
 refine⟨a,cap,by rw[hl],by omega,by omega,h3,fun h0=>?_⟩;obtain⟨b,off,rfl,hb,hc⟩:=h4 (by omega);refine⟨b,off,rfl,hb,fun j x hj=>?_⟩;rw[List.getElem?_take] at hj
 split at hj
 ·exact hc j x hj
 ·exact absurd hj (by simp)
def Dd(s:ByteArray):List ByteArray:=
 if(Ae s 10).getD ((Ae s 10).length-1) ⟨#[]⟩=⟨#[]⟩ then(Ae s 10).take ((Ae s 10).length-1) else Ae s 10
theorem Sh(s:ByteArray):(Dd s).length≤s.size+1:=by
 have:=DO s 10;unfold Dd
 split
 ·rw[List.length_take];omega
 ·exact this
theorem Qk(s:ByteArray):∀p∈Dd s,p.size≤s.size:=by
 intro p hp;unfold Dd at hp
 split at hp
 ·exact CV s 10 p (List.mem_of_mem_take hp)
 ·exact CV s 10 p hp
def A3F(w:World)(xs:List ByteArray):Ending→World→Prop:=fun e w'=>∃v,e=.returned v∧AM w' v xs∧Below w.heap.size w w'
theorem KL(s:ByteArray)(w:World)(hs:s.size≤1048576):Calls Tryz.prog 10 #[.string s] w (A3F w (Dd s)):=by
 have bF:=EJ s 10;have aP:=DO s 10;go_enter Tryz.func10,Tryz.ntmps10;go_wp2_with (fail);refine(Am s 10 _ hs).mono ?_;rintro e w2 ⟨v2,rfl,o2,b2⟩;obtain⟨xs,dz⟩:∃xs,xs=Ae s 10:=⟨_,rfl⟩;rw[←dz] at o2 bF aP;have hL:Dd s=if xs.getD (xs.length-1) ⟨#[]⟩=⟨#[]⟩ then xs.take (xs.length-1) else xs:=by rw[dz];rfl
 have HL:=Z hL;have bE:AM w2 v2 xs:=o2.strs;obtain⟨a,cap,rfl,-⟩:=id bE;obtain⟨b,off,cpr,he,hb,ak⟩:=bE.inv_ne bF;obtain⟨rfl,rfl⟩:a=some ⟨b,off,none⟩∧cap=cpr:=by simpa using he
 have de:xs.length-1≤cap:=by omega
 obtain⟨u,hu,hr⟩:=Sl.at bE (BE (⟨#[]⟩:ByteArray) (by omega:xs.length-1<xs.length));obtain⟨rfl,-⟩:=hr;obtain⟨last,fN⟩:∃last,last=xs.getD (xs.length-1) ⟨#[]⟩:=⟨_,rfl⟩;rw[←fN] at hu HL;have aJ:=Z bE;have bj:=Z b2;have e1:((xs.length:Int)-1).toNat=xs.length-1:=by omega
 clear bE b2 o2 hL fN he dz;by_cases hem:last=⟨#[]⟩
 ·have Hr:=Z (show Dd s=xs.take (xs.length-1) from by rw[HL.o,if_pos hem]);subst hem;go_wp2
  go_ret
  exact⟨_,rfl,by rw[Hr.o];exact Sl.upto aJ.o (by omega),bj.o⟩
 ·have Hr:=Z (show Dd s=xs from by rw[HL.o,if_neg hem]);have aO:last.toList.isEmpty=false:=by
   rw[ByteArray.toList_eq];cases h:last.data.toList with
   |nil=>exact absurd (Dm (by rw[h])) hem
   |cons a l=>rfl
  clear hem;go_wp2
  go_ret
  exact⟨_,rfl,by rw[Hr.o];exact aJ.o,bj.o⟩
theorem Vw(s:ByteArray)(w:World)(hs:s.size≤1048576):Calls Tryz.prog 57 #[.string s] w (A3F w (Dd s)):=by
 have bF:=EJ s 10;have aP:=DO s 10;go_enter Tryz.func57,Tryz.ntmps57;go_wp2_with (fail);refine(CF s 10 _ hs).mono ?_;rintro e w2 ⟨v2,rfl,o2,b2⟩;obtain⟨xs,dz⟩:∃xs,xs=Ae s 10:=⟨_,rfl⟩;rw[←dz] at o2 bF aP;have hL:Dd s=if xs.getD (xs.length-1) ⟨#[]⟩=⟨#[]⟩ then xs.take (xs.length-1) else xs:=by rw[dz];rfl
 have HL:=Z hL;have bE:AM w2 v2 xs:=o2.strs;obtain⟨a,cap,rfl,-⟩:=id bE;obtain⟨b,off,cpr,he,hb,ak⟩:=bE.inv_ne bF;obtain⟨rfl,rfl⟩:a=some ⟨b,off,none⟩∧cap=cpr:=by simpa using he
 have de:xs.length-1≤cap:=by omega
 obtain⟨u,hu,hr⟩:=Sl.at bE (BE (⟨#[]⟩:ByteArray) (by omega:xs.length-1<xs.length));obtain⟨rfl,-⟩:=hr;obtain⟨last,fN⟩:∃last,last=xs.getD (xs.length-1) ⟨#[]⟩:=⟨_,rfl⟩;rw[←fN] at hu HL;have aJ:=Z bE;have bj:=Z b2;have e1:((xs.length:Int)-1).toNat=xs.length-1:=by omega
 clear bE b2 o2 hL fN he dz;by_cases hem:last=⟨#[]⟩
 ·have Hr:=Z (show Dd s=xs.take (xs.length-1) from by rw[HL.o,if_pos hem]);subst hem;go_wp2
  go_ret
  exact⟨_,rfl,by rw[Hr.o];exact Sl.upto aJ.o (by omega),bj.o⟩
 ·have Hr:=Z (show Dd s=xs from by rw[HL.o,if_neg hem]);have aO:last.toList.isEmpty=false:=by
   rw[ByteArray.toList_eq];cases h:last.data.toList with
   |nil=>exact absurd (Dm (by rw[h])) hem
   |cons a l=>rfl
  clear hem;go_wp2
  go_ret
  exact⟨_,rfl,by rw[Hr.o];exact aJ.o,bj.o⟩
def Vk(w:World)(xs ys:List Int)(p:List (List Int))(e:Ending)(w':World):Prop:=
 ∃v n,e=.returned (.tuple #[v,.int .i64 n,.bool (EM xs ys p).isSome])∧A4 32 (A4 3 A7) (Iv w.heap.size w'.heap.size) w' v ((EM xs ys p).getD [])∧(∀x,EM xs ys p=some x→n=BG xs.length ys.length x p)∧Below w.heap.size w w'
theorem Ig{w w':World}{xs ys:List Int}{p:List (List Int)}(h:EM xs ys p=none)(hb:Below w.heap.size w w'):Vk w xs ys p (.returned (.tuple #[.slice none 0 0,.int .i64 0,.bool false])) w':=
 ⟨.slice none 0 0,0,by rw[h];rfl,by rw[h];exact A4.nil _ _ _ _,(fun x hx=>by rw[h] at hx;cases hx),hb⟩
theorem X5{xs ys:List Int}{m:List (List Int)}(h:m∈AZ xs ys):AF xs ys=true∧Ac xs.length ys.length m:=by
 cases aD:AF xs ys
 ·rw[GF aD] at h;cases h
 ·rw[Cu aD] at h;exact⟨rfl,((Dp aD m).1 h).1⟩
theorem R1(v v2 v3:Value)(xs ys:List Int)(p:List (List Int))(r c:Nat)(w:World)(hv:Ab w v xs)(aW:Ab w v2 ys)(jh:Ak w v3 p)(hs:Ac r c p)(hr1:1≤r)(hr5:r≤5)(hc1:1≤c)(hc5:c≤5):
  Calls Tryz.prog 41 #[v,v2,v3] w (Vk w xs ys p):=by
 have jE:=Z jh;have cz:=DQ xs ys;obtain⟨a3,cap3,rfl,-⟩:=jh;obtain⟨L,hL⟩:∃L,L=AZ xs ys:=⟨_,rfl⟩;rw[←hL] at cz;have HL:=Z hL;go_enter Tryz.func41,Tryz.ntmps41;go_wp2_with (fail);refine(Ef _ _ _ _ _ hv aW).mono ?_;rintro e w1 ⟨vo,rfl,o1,b1⟩;rw[←hL] at o1;cases aN:L[0]? with
 |none=>
  have sH:L=[]:=by
   cases L with
   |nil=>rfl
   |cons a t=>simp at aN
  have Hn:=Z (show EM xs ys p=none from by
   unfold EM;rw[←hL,sH]
   split<;>rfl)
  subst sH;clear aN hL;rcases o1.inv with⟨rfl,-⟩|⟨g,cap,rfl,-⟩
  ·go_wp2;exact bodyPost_ret (v:=.tuple #[.slice none 0 0,.int .i64 0,.bool false]) (by simp[results,Tryz.results41,go_sem]) rfl (Ig Hn.o b1)
  ·go_wp2;exact bodyPost_ret (v:=.tuple #[.slice none 0 0,.int .i64 0,.bool false]) (by simp[results,Tryz.results41,go_sem]) rfl (Ig Hn.o b1)
 |some m0=>
  have bF:0<L.length:=(List.getElem?_eq_some_iff.1 aN).1;have fA:=Z (show ∀m∈L,AF xs ys=true∧Ac xs.length ys.length m from fun m hm=>X5 (hL▸hm));obtain⟨aD,ce⟩:=fA.o m0 (List.mem_of_getElem? aN);obtain⟨cM,jb,d5,lG,-⟩:=BC aD;have aI:Di m0 p=(decide (xs.length=r)&&decide (ys.length=c)):=by
   unfold Di;rw[ce.ok cM jb d5 lG,hs.ok hr1 hr5 hc1 hc5,(Dw ce cM).1,(Dw ce cM).2,(Dw hs hr1).1,(Dw hs hr1).2];rfl
  have lR:=Dw hs hr1;have aO:((L.length:Int)==0)=false:=by rw[beq_eq_false_iff_ne];omega
  obtain⟨gl,capl,u0,rfl,ai,eL,hru0⟩:=o1.elem (A3 (A3 A2)) aN;have Hu0:=Z (A4.grid hru0);obtain⟨t1,t2,t3,rfl⟩:=A4.shape hru0;have fe:=Z o1;have Hk0:=Z aN;have dp:=Z b1;by_cases dE:xs.length=r∧ys.length=c
  ·have bV:=Z (show Di m0 p=true from by rw[aI];simp[dE.1,dE.2]);obtain⟨F,hF⟩:∃F,F=Fz (fun m=>BG xs.length ys.length m p) L m0:=⟨_,rfl⟩;have qk:=Z (show EM xs ys p=some F from by
    unfold EM;rw[if_pos ⟨by rw[lR.1,dE.1],by rw[lR.2,dE.2]⟩,←hL,hF];cases L with
    |nil=>simp at aN
    |cons a t=>
     obtain rfl:a=m0:=by simpa using aN
     rw[Wy];rfl)
   have sI:=Z dE.1;have sJ:=Z dE.2;have HF0:Hid (Fz (fun m=>BG xs.length ys.length m p) (L.drop 0) m0=F):=Z (by rw[List.drop_zero,hF]);obtain⟨N,hN⟩:∃N,N=L.length:=⟨_,rfl⟩;rw[←hN] at bF aO cz⊢;have HN:=Z hN;have yH:=Z eL;clear aI lR o1 aN b1 dE hF hN hL ce aD hru0;go_wp2_with (fail);refine(Nj _ _ m0 p _ Hu0.o (jE.o.keep dp.o)).mono ?_;rintro e w2 ⟨rfl,b2⟩;rw[bV.o];have ec:=(b2.cell (p:=⟨gl,0,none⟩) ai).trans eL;have bj:=Z b2;clear b2 eL;go_wp2;clear ec;go_loopw [11,13,36] (fun bv _ i wr=>∃(k ib:Nat)(b:List (List Int)),k≤N∧i=.int .i64 k∧Hid (L[ib]? =some b∧w1.cell? ⟨gl,ib,none⟩=some bv)∧Hid (Fz (fun m=>BG xs.length ys.length m p) (L.drop k) b=F)∧Hid (Below w1.heap.size w1 wr)) (fun _ _ i _=>N-(intOf i).toNat)
   case atStart=>exact⟨0,0,m0,Nat.zero_le _,rfl,Z ⟨Hk0.o,yH.o⟩,HF0,bj⟩
   case round=>
    clear bj;obtain⟨k,ib,b,hk,rfl,Hib,HFk,Hb⟩:=hrel;obtain⟨gl',capl',ub,heb,-,lS,hrub⟩:=fe.o.elem (A3 (A3 A2)) Hib.o.1;obtain rfl:gl=gl':=by injection heb with h1;injection h1 with h1;injection h1
    obtain rfl:u11=ub:=Option.some.inj (Hib.o.2.symm.trans lS);have Hub:=Z (A4.grid hrub);have ql:=Z hrub;obtain⟨s1,s2,s3,rfl⟩:=A4.shape hrub;have iG:=(fA.o b (List.mem_of_getElem? Hib.o.1)).2;rw[sI.o,sJ.o] at iG;clear lS hrub heb;by_cases aH:k<N
    ·obtain⟨m,hm⟩:∃m,L[k]? =some m:=⟨_,List.getElem?_eq_getElem (by rw[←HN.o];exact aH)⟩;have sK:=(fA.o m (List.mem_of_getElem? hm)).2;rw[sI.o,sJ.o] at sK;obtain⟨gl',capl',um,hem,-,hum,hrum⟩:=fe.o.elem (A3 (A3 A2)) hm;obtain rfl:gl=gl':=by injection hem with h1;injection h1 with h1;injection h1
     have mR:=Z (A4.grid hrum);obtain⟨q1,q2,q3,rfl⟩:=A4.shape hrum;have pP:=Z (show L[k]? =some m∧w1.cell? ⟨gl,k,none⟩=some (.slice q1 q2 q3) from⟨hm,hum⟩);have qm:=(Hb.o.cell (p:=⟨gl,k,none⟩) ai).trans hum;have aJ:=Z (LC (d:=fun m=>BG xs.length ys.length m p) (b:=b) hm);obtain⟨D1,hD1⟩:∃D,D=BG r c m p:=⟨_,rfl⟩;obtain⟨D2,pT⟩:∃D,D=BG r c b p:=⟨_,rfl⟩;have oC:=Z hD1;have yI:=Z pT;have oD:=Z (show(BG xs.length ys.length m p<BG xs.length ys.length b p)↔D1<D2 from by rw[sI.o,sJ.o,hD1,pT]);clear hm hem hum hrum hD1 pT;go_wp2_with (fail);refine(KS _ _ m p r c _ (mR.o.keep Hb.o) (jE.o.keep (dp.o.trans_pure Hb.o (Nat.le_refl _))) sK hs hr1 hr5 hc1 hc5).mono ?_;rintro e w3 ⟨rfl,b3⟩;rw[←oC.o];have bM:=Z (Hb.o.trans_pure b3 (Nat.le_refl _));clear b3 qm;go_wp2_with (fail);refine(KS _ _ b p r c _ (Hub.o.keep bM.o) (jE.o.keep (dp.o.trans_pure bM.o (Nat.le_refl _))) iG hs hr1 hr5 hc1 hc5).mono ?_;rintro e w4 ⟨rfl,b4⟩;rw[←yI.o];have eV:=Z (bM.o.trans_pure b4 (Nat.le_refl _));clear b4;by_cases hd:D1<D2
     ·have lT:decide (D1<D2)=true:=by simpa using hd
      have yJ:=Z (show Fz (fun m=>BG xs.length ys.length m p) (L.drop (k+1)) m=F from by
       have h:=HFk.o;rw[aJ.o,if_pos (oD.o.2 hd)] at h;exact h)
      clear hd;go_wp2;go_roundw
      case rel=>exact⟨k+1,k,m,by omega,by go_num,pP,yJ,eV⟩
      case measure=>simp[intOf];omega
     ·have lT:decide (D1<D2)=false:=by simpa using hd
      have yJ:=Z (show Fz (fun m=>BG xs.length ys.length m p) (L.drop (k+1)) b=F from by
       have h:=HFk.o;rw[aJ.o,if_neg (fun h=>hd (oD.o.1 h))] at h;exact h)
      clear hd;go_wp2;go_roundw
      case rel=>exact⟨k+1,ib,b,by omega,by go_num,Hib,yJ,eV⟩
      case measure=>simp[intOf];omega
    ·have hbF:b=F:=by
      have h:=HFk.o;rw[List.drop_of_length_le (by rw[←HN.o];omega)] at h;exact h
     have xH:=Z hbF;clear hbF;go_wp2_with (fail);refine(KS _ _ b p r c _ (Hub.o.keep Hb.o) (jE.o.keep (dp.o.trans_pure Hb.o (Nat.le_refl _))) iG hs hr1 hr5 hc1 hc5).mono ?_;rintro e w3 ⟨rfl,b3⟩;obtain⟨D2,pT⟩:∃D,D=BG r c b p:=⟨_,rfl⟩;rw[←pT];have yI:=Z pT;have bM:=Z (Hb.o.trans_pure b3 (Nat.le_refl _));clear b3 pT;go_wp2;refine bodyPost_ret (v:=.tuple #[.slice s1 s2 s3,.int .i64 D2,.bool true]) (by simp[results,Tryz.results41,go_sem]) rfl ⟨_,_,by rw[qk.o];rfl,?_,?_,dp.o.trans_pure bM.o (Nat.le_refl _)⟩
     ·rw[qk.o];show A4 _ _ _ _ _ F;rw[←xH.o];exact(A3 (A3 A2)).mono (fun x hx=>⟨hx.1,Nat.lt_of_lt_of_le hx.2 bM.o.size⟩) (A4.keep (A3 A2) ql.o bM.o (Nat.le_refl _))
     ·intro x hx;rw[qk.o] at hx;rw[←Option.some.inj hx,←xH.o,yI.o,sI.o,sJ.o]
  ·have bV:=Z (show Di m0 p=false from by
    rw[aI,Bool.and_eq_false_iff,decide_eq_false_iff_not,decide_eq_false_iff_not];by_cases h1:xs.length=r
    ·exact .inr fun h=>dE ⟨h1,h⟩
    ·exact .inl h1)
   have Hn:=Z (show EM xs ys p=none from by
    unfold EM;rw[if_neg (fun h=>dE ⟨by rw[←h.1,lR.1],by rw[←h.2,lR.2]⟩)])
   clear aI lR o1 aN b1 dE hL ce aD hru0;go_wp2_with (fail);refine(Nj _ _ m0 p _ Hu0.o (jE.o.keep dp.o)).mono ?_;rintro e w2 ⟨rfl,b2⟩;rw[bV.o];have bj:=Z (dp.o.trans_pure b2 (Nat.le_refl _));clear b2;go_wp2;exact bodyPost_ret (v:=.tuple #[.slice none 0 0,.int .i64 0,.bool false]) (by simp[results,Tryz.results41,go_sem]) rfl (Ig Hn.o bj.o)

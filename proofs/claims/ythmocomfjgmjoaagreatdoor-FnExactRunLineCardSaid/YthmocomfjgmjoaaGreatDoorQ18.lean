/- Base. -/
import Derived.Test.YthmocomfjgmjoaaGreatDoorQ17
set_option maxHeartbeats 6400000
set_option maxRecDepth 100000
namespace Go.Proofs.YthmocomfjgmjoaaGreatDoor
open Go.RowKit Go.Proofs.Tryz
variable {NB:Nat}{W:List Sw}{X:Bk}{acc:List E3}{b c:Nat}{e:E3}{f:Nat→Option Nat}{g:I}{gs:List I}{j:Nat}{m:I}{n n0:Nat}{qv:Value}{r:Nat}{s:Sw}{t:I}{u:Value}{w w' wr:World}
def Fl(r c:Nat)(acc:List E3)(k:Nat):Option Nat:=(acc.find? fun e=>decide (BN r c e.1=k)).map fun e=>e.2.length
theorem A0A(hc:1≤c)(an:∀e∈acc,Ax r c e.1)(hg:Ax r c g):(Fl r c acc (BN r c g)).isSome=acc.any fun x=>decide (x.1=g):=by
 unfold Fl;rw[Option.isSome_map,Bool.eq_iff_iff,List.find?_isSome];simp only[List.any_eq_true,Ah];constructor
 ·rintro⟨e,he,hk⟩;exact⟨e,he,OL hc (an e he) hg hk⟩
 ·rintro⟨e,he,hk⟩;exact⟨e,he,by rw[hk]⟩
theorem A34(hc:1≤c)(an:∀e∈acc,Ax r c e.1)(gn:acc.Pairwise (fun a b=>a.1≠b.1))(he:e∈acc):Fl r c acc (BN r c e.1)=some e.2.length:=by
 unfold Fl;cases hf:acc.find? fun x=>decide (BN r c x.1=BN r c e.1)with
 |none=>
  have:=List.find?_eq_none.1 hf e he;simp at this
 |some x=>
  have h1:=List.mem_of_find?_eq_some hf;have h2:=List.find?_some hf;rw[Ah]at h2;have h3:=OL hc (an x h1) (an e he) h2;have h4:x=e:=by
   obtain⟨i,hi,rfl⟩:=List.getElem_of_mem h1;obtain⟨j,hj,rfl⟩:=List.getElem_of_mem he;rcases Nat.lt_trichotomy i j with h|rfl|h
   ·exact absurd h3 (List.pairwise_iff_getElem.1 gn i j hi hj h)
   ·rfl
   ·exact absurd h3.symm (List.pairwise_iff_getElem.1 gn j i hj hi h)
  rw[h4];rfl
theorem X8(hc:1≤c)(an:∀e∈acc,Ax r c e.1)(he:Ax r c e.1)(hn:(acc.any fun x=>decide (x.1=e.1))=false):Fl r c (acc++[e])=YI (Fl r c acc) (BN r c e.1) e.2.length:=by
 funext k
 unfold YI;by_cases h:k=BN r c e.1
 ·subst h;rw[if_pos rfl];have h1:=A0A hc an he;rw[hn]at h1;unfold Fl at h1⊢;rw[List.find?_append];cases hf:acc.find? fun x=>decide (BN r c x.1=BN r c e.1)with
  |none=>simp
  |some x=>rw[hf]at h1;simp at h1
 ·rw[if_neg h];unfold Fl;rw[List.find?_append];cases hf:acc.find? fun x=>decide (BN r c x.1=k)with
  |none=>
   have:decide (BN r c e.1=k)=false:=decide_eq_false (fun h2=>h h2.symm);simp[this]
  |some x=>simp
theorem Kd(h:Ax r c g)(hr:r≤5)(hc:c≤5):BN r c g<1073741824:=by
 have h1:=Y4 h;have h2:2^(r*c)≤2^25:=Nat.pow_le_pow_right Jq (Nat.mul_le_mul hr hc);have h3:(2:Nat)^25=33554432:=Jq;omega
theorem V2:(Tryz.prog.info? 31).map (fun i=>(i.zero,i.size,i.bytes))=some (some (.slice none 0 0),1,24):=by kernel_rfl
structure Zh(r c:Nat)(m t:I)(NB:Nat):Prop where
 hm:Ax r c m
 ht:Ax r c t
 hr1:1≤r
 hr4:r≤4
 hc1:1≤c
 hc4:c≤4
 nb:NB≤33554432
 sums:Da (Ae m) (Al m) r c m
 sumt:Da (Ae m) (Al m) r c t
 boundI:∀j acc,K6 r c t j acc→acc.length≤NB
 boundM:∀j e0 ss acc,LF r c t j e0 ss acc→acc.length≤NB
theorem VP(hm:Ax r c m)(ht:Ax r c t)(hr1:1≤r)(hr4:r≤4)(hc1:1≤c)(hc4:c≤4)(e1:Ae m=Ae t)(e2:Al m=Al t):∃NB,Zh r c m t NB:=by
 have hS:=Dv hm hr1 J hc1 J;have hT:=Dv ht hr1 J hc1 J;rw[←e1,←e2]at hT;have aj:=(Cr hm hr1 J hc1 J).1;have ah:=(Cv hm hr1 J hc1 J).1;have hok:AT (Ae m) (Al m)=true:=IG J J J J (by rw[aj,ah];exact hS);have aN:=JJ (Ae m) (Al m);refine⟨(BB (Ae m) (Al m)).length,hm,ht,hr1,hr4,hc1,hc4,?_,hS,hT,fun j acc h=>?_,fun j e0 ss acc h=>?_⟩
 ·rw[aj,ah]at aN;exact Aj aN (Aj (Nat.pow_le_pow_right Jq (Nat.mul_le_mul hr4 (Nat.succ_le_succ hc4))) Jq)
 ·exact K6.qbv (m:=t) (j:=j) hok (by rw[aj,ah];exact hT) (by rw[aj,ah];exact h)
 ·exact LF.qbv (m:=t) (j:=j) (e0:=e0) (ss:=ss) hok (by rw[aj,ah];exact hT) (by rw[aj,ah];exact h)
theorem Kz(ht:Ax r c t)(h:∀e∈acc,CT r c t e.2 e.1):∀e∈acc,Ax r c e.1:=fun e he=>(h e he).shape ht
structure QSt(w wr:World)(qv:Value)(b n:Nat)(gs:List I)(f:Nat→Option Nat):Prop where
 q:FM w.heap.size (fun x=>x=b) wr qv gs
 map:Il wr b n f
 bel:Below w.heap.size w wr
 nb:w.heap.size≤b
theorem QSt.pure(h:QSt w wr qv b n gs f)(hb:Below wr.heap.size wr w'):QSt w w' qv b n gs f:=
 ⟨h.q.pure hb,h.map.pure hb,h.bel.qaa hb (A2 _),h.nb⟩
theorem QSt.shape(h:QSt w wr qv b n gs f):∃a k c,qv=.slice a k c∧k=gs.length:=by
 obtain⟨a,c,h⟩:=h.q.shape;exact⟨a,_,c,h,rfl⟩
theorem FM.start{w2:World}(hu:O2 n0 w2 u t)(h1:u.oneCell'=true)(hn:n0≤w2.heap.size)(hX:∀x,w2.heap.size≤x→¬X x):FM n0 X (w2.alloc (.cells #[u] 31)) (.slice (some ⟨w2.heap.size,0,none⟩) 1 1) [t]:=by
 have hb:=Below.qab w2 (.cells #[u] 31);have hh:(w2.alloc (.cells #[u] 31)).heap[w2.heap.size]? =some (.cells #[u] 31 (0,0)):=B9.new w2 #[u] 31;refine⟨[u],.inr ⟨w2.heap.size,#[u],rfl,⟨hn,hX _ (A2 _),Jj⟩,hh,Jj,by simp[maxLen],Jj,fun _ _=>False,fun _ _ h=>h.elim,fun _ _ _ h=>h.elim,fun k x hk=>?_⟩,rfl,fun k v g hk hg=>?_⟩
 ·cases k with
  |zero=>simp at hk;subst hk;exact⟨u,rfl,rfl,h1⟩
  |succ k=>simp at hk
 ·cases k with
  |zero=>simp at hk hg;subst hk;subst hg;exact hu.pure hb
  |succ k=>simp at hk
theorem FM.push{wz:World}{v':Value}{us:List Value}(h2:us.length=gs.length)(h3:∀(k:Nat)(u:Value)(g:I),us[k]? =some u→gs[k]? =some g→O2 n0 wz u g)(hq:∀x,qv.ownBlock=some x→¬Tg n0 wz x)(hu:O2 n0 wz u g)
  (aB:Ag 31 PS (fun b=>(n0≤b∧¬X b)∧b<w'.heap.size) w' v' (us++[u]))(ho:AO (fun b=>qv.ownBlock=some b) wz w'):FM n0 X w' v' (gs++[g]):=by
 refine⟨us++[u],(Ab EW).mono (fun x hx=>⟨hx.1.1,hx.1.2,hx.2⟩) aB,by rw[Ad,Ad,h2];rfl,fun k v x hk hx=>?_⟩;by_cases aF:k<us.length
 ·rw[Aq aF]at hk;rw[Aq J]at hx;exact(h3 k v x hk hx).only ho hq
 ·have ap:k=us.length:=by
   have:=(A5.1 hk).1;rw[Ad,List.length_singleton]at this;omega
  subst ap;rw[List.getElem?_append_right (A2 _),Nat.sub_self]at hk;rw[List.getElem?_append_right J,show us.length-gs.length=0 from by omega]at hx;simp at hk hx;subst hk;subst hx;exact hu.only ho hq
theorem A0k(hok:Zh r c m t NB)(gj:K6 r c t j acc)(eh:acc.length≤j):∀g,Da (Ae m) (Al m) r c g→∃n,Fl r c acc (BN r c g)=some n∧V4 r c t g n∧n≤NB:=fun g hg=>by
 obtain⟨e,he,rfl⟩:=gj.found eh hok.sumt hg;obtain⟨i,hi,rfl⟩:=List.getElem_of_mem he;refine⟨_,A34 hok.hc1 (Kz hok.ht gj.path) gj.nodup he,(gj.least eh he).far,?_⟩;have h1:=gj.len i _ (A3 hi);have h2:=hok.boundI _ _ gj;omega
def A4E:Value→Nat
 |.slice _ n _=>n
 |_=>0
theorem Cw.not_img{v:Value}{l:List Sw}(h:Cw n0 w v l):∀x,v.ownBlock=some x→¬Tg n0 w x:=by
 intro x hx;obtain⟨-,⟨rfl,-⟩|⟨g,cap,cur,rfl,hB,hh,-⟩⟩:=id h
 ·simp[Value.ownBlock]at hx
 ·simp[Value.ownBlock]at hx;subst hx;exact Go.Proofs.YthmocomfjgmjoaaGreatDoor.not_img hB hh Jq Jq
theorem A2B{p:List Sw}(hok:Zh r c m t NB)(gj:K6 r c t j acc)(eh:acc.length≤j)(h:∀q,MA r c t g q→MA r c t m (p++q))(hf:V4 r c t g 0):Ki r c m t p:=by
 have e:=A2K hf;subst e;have hd:=h [] .done;rw[List.append_nil]at hd;have h1:=hok.hr4;have h2:=hok.hc4;refine MA.least J J hok.hm hok.ht (fun x hx ⟨q,hq⟩=>?_) hd;have hs:=(CT.rev hq hx).sums hok.sumt;obtain⟨k,-,hk,-⟩:=A0k hok gj eh x hs;exact⟨k,hk⟩
theorem A2Y(v v2:Value)(m t:I)(r c:Nat)(w:World)(hv:AI w v m)(aS:AI w v2 t)(hs:Ax r c m)(hs2:Ax r c t)(hr1:1≤r)(hr4:r≤4)(hc1:1≤c)(hc4:c≤4)(e1:Ae m=Ae t)(e2:Al m=Al t):
  Calls prog 96 #[v,v2] w fun e w'=>∃v' W,e=.returned (.tuple #[v',.bool true])∧Ki r c m t W∧W.length≤33554432∧Cw w.heap.size w' v' W∧Below w.heap.size w w':=by
 have hr5:r≤5:=J;have hc5:c≤5:=J;obtain⟨NB,hok⟩:=VP hs hs2 hr1 hr4 hc1 hc4 e1 e2;have aR:=Z hok;have jn:=hok.nb;have E1:=Z e1;have E2:=Z e2;obtain⟨b,off,cp,rfl,hb,hm⟩:=hv.qaw hs.qap hr1 hc1;obtain⟨b0,o0,c0,bZ,-⟩:=hm 0 J;obtain⟨b',off2,cp2,rfl,af,-⟩:=aS.qaw hs2.qap hr1 hc1;have Hv:=Z hv;have aY:=Z aS;have HIt:=Z (O2.qbj aS (A2 _));have HIm:=Z (O2.qbj hv (A2 _));have hkt:=Kd hs2 hr5 hc5;obtain⟨KT,hKT⟩:∃KT,KT=BN r c t:=⟨_,rfl⟩;have HKT:=Z hKT;rw[←hKT]at hkt;have h4r:¬(4:Int)<(r:Int):=J;have h4c:¬(4:Int)<(c:Int):=J;have k9:=Z bZ;clear hok e1 e2 hv aS hm hKT bZ;have rP:=@run_makeMap prog;go_enter func96,ntmps96;go_wp2_with fail;refine(YH _ _ m t r c _ Hv.o aY.o hs hs2 hr1 hr5 hc1 hc5 E1.o E2.o).mono ?_;rintro e w1 ⟨rfl,b1⟩;have bZ:=k9.o w1 b1;rw[AF]at bZ;have wD:=Z (Below.qab w1 (.map #[] 0));go_wp2_with fail;refine(JM _ t r c _ ((aY.o.keep b1).keep wD.o) hs2 hr1 hr5 hc1 hc5).mono ?_;rintro e w' ⟨rfl,rfl⟩;rw[←HKT.o];obtain⟨w2,hrun2,hf2,ke⟩:=(Il.made w1).store (v:=0) hkt J J;have Hf2:=Z hf2;have dB:=Z ke;rw[show((0:Nat):Int)=0 from rfl]at hrun2;have rp:=b1.qaa wD.o (A2 _);have cQ:=b1.size;have be:=Z (show Below w.heap.size w w2 from rp.trans (dB.o.below (Aj cQ Jj) fun x hx=>by have hx:x=w1.heap.size:=hx;omega));have hs2':w1.heap.size<w2.heap.size:=Aa Jj dB.o.size;have HI2:=Z (show O2 w.heap.size w2 (.slice (some ⟨b',off2,none⟩) r cp2) t from(HIt.o.pure rp).only dB.o fun x hx=>by
  have hx:x=w1.heap.size:=hx;subst hx;exact QI cQ (Il.made w1))
 have jo:=Z (show QSt w (w2.alloc (.cells #[.slice (some ⟨b',off2,none⟩) r cp2] 31)) (.slice (some ⟨w2.heap.size,0,none⟩) 1 1) w1.heap.size 1 [t] (Fl r c [(t,[])])from
  ⟨FM.start HI2.o rfl be.o.size (fun x hx e=>by have e:x=w1.heap.size:=e;omega),by
    have e:Fl r c [(t,([]:List Sw))]=YI (fun _=>none) KT 0:=by
     have h:=X8 (r:=r) (c:=c) hc1 (acc:=[]) (e:=(t,[])) Jj hs2 rfl;rw[List.nil_append]at h;rw[h,HKT.o];rfl
    rw[e];exact Hf2.o.pure (Below.qab _ _),be.o.qaa (Below.qab _ _) (A2 _),cQ⟩)
 have mI:=Z (RG r c t);obtain⟨bm,oM⟩:∃bm,bm=w1.heap.size:=⟨_,rfl⟩;rw[←oM]at jo;have Hbm:=Z oM;have xQ:w.heap.size≤bm:=J;have hd4r:decide ((4:Int)<(r:Int))=false:=by rw[decide_eq_false_iff_not];omega
 have hd4c:decide ((4:Int)<(c:Int))=false:=by rw[decide_eq_false_iff_not];omega
 clear bZ hf2 ke rp hs2' oM;go_wp2;rw[←Hbm.o];go_loopw [7,8,10,11,12,13,14] (fun qv iv _ _ _ _ _ wr=>∃(j:Nat)(acc:List E3),j≤NB∧iv=.int .i64 j∧Hid (K6 r c t j acc)∧Hid (QSt w wr qv bm acc.length (acc.map Prod.fst) (Fl r c acc))) (fun _ iv _ _ _ _ _ _=>NB+1-(intOf iv).toNat);exact⟨0,[(t,[])],A7 _,rfl,mI,jo⟩;clear mI jo;obtain⟨j,acc,hj,rfl,d9,aG⟩:=hrel;obtain⟨wo,rfl⟩:∃wo:World,wo=wr:=⟨_,rfl⟩;obtain⟨qa,L,qc,rfl,hL⟩:=aG.o.shape;rw[Ay]at hL;have hbmo:=aG.o.map.lt;have sE:L≤NB:=by rw[hL];exact aR.o.boundI _ _ d9.o
 have HL:=Z hL;clear hL;by_cases aF:j<L
 ·obtain⟨e0,he0⟩:∃e0,acc[j]? =some e0:=⟨_,A3 (by rw[←HL.o];exact aF)⟩;have iQ:=Kz hs2 d9.o.path e0 (A4 he0);have fT:(acc.map Prod.fst)[j]? =some e0.1:=by rw[Ak,he0];rfl
  obtain⟨qb,qc',u,he,hqb,nQ,hiu⟩:=aG.o.q.at fT;obtain⟨rfl,-⟩:qa=some ⟨qb,0,none⟩∧qc=qc':=by
   simp only[Value.slice.injEq]at he;exact⟨he.1,he.2.2⟩
  have ld:=Z hiu;obtain⟨ua,uc,rfl,-⟩:=hiu.qag;have cz:=Z (d9.o.mid he0);have yh:j+1≤NB:=J;have dQ:=Z (show ∀s∈Bj r c e0.1,CL r c e0.1 s from fun s hs=>DD.1 hs);have jE:=Ii hr4 hc4 e0.1;have jF:=Z (G9 hr5 hc5 e0.1);obtain⟨ss,iR⟩:∃ss,ss=Bj r c e0.1:=⟨_,rfl⟩;rw[←iR]at dQ jE jF;have mJ:=Z iR;clear he he0 hiu fT iR;go_wp2_with fail;refine(Ls _ e0.1 r c _ ld.o.qag iQ hr1 hr5 hc1 hc5).mono ?_;rintro e wS ⟨vs,rfl,oS,bS⟩;rw[←mJ.o]at oS;have pJ:=Z (show 0<ss.length→∃g cap,vs=.slice (some ⟨g,0,none⟩) ss.length cap∧wo.heap.size≤g∧C4 wS g ss from fun h=>oS.blk h);obtain⟨sa,sc,rfl⟩:=oS.shape;obtain⟨N,hN⟩:∃N,N=ss.length:=⟨_,rfl⟩;rw[←hN]at jE pJ⊢;have HN:=Z hN;have mK:=Z (aG.o.pure bS);have hqbS:qb<wS.heap.size:=Aa hqb bS.size;clear hN oS;go_wp2;clear nQ;go_loopw [7,10,11,12,13,14,55] (fun qv _ _ _ _ _ i wr=>∃(k:Nat)(acc:List E3),k≤N∧i=.int .i64 k∧Hid (LF r c t j e0 (ss.take k) acc)∧Hid (QSt w wr qv bm acc.length (acc.map Prod.fst) (Fl r c acc))∧Hid (∀g,wo.heap.size≤g→C4 wS g ss→C4 wr g ss)) (fun _ _ _ _ _ _ i _=>N-(intOf i).toNat);exact⟨0,acc,A7 _,rfl,cz,mK,Z fun _ _ h=>h⟩;clear cz mK aG d9 HL aF ld;obtain⟨k,acc,hk,rfl,cz,aG,Hkeep⟩:=hrel;obtain⟨wi,rfl⟩:∃wi:World,wi=wr:=⟨_,rfl⟩;obtain⟨qa,L,qc,rfl,hL⟩:=aG.o.shape;rw[Ay]at hL;have sE:L≤NB:=by rw[hL];exact aR.o.boundM _ _ _ _ cz.o
  have HL:=Z hL;clear hL;by_cases hltk:k<N
  ·obtain⟨sp,aO⟩:∃sp,ss[k]? =some sp:=⟨_,A3 (by rw[←HN.o];exact hltk)⟩;have fo:=dQ.o sp (A4 aO);obtain⟨g,cap,he,kT,cF⟩:=pJ.o J;obtain⟨rfl,-⟩:sa=some ⟨g,0,none⟩∧sc=cap:=by
    simp only[Value.slice.injEq]at he;exact⟨he.1,he.2.2⟩
   have cF:=Hkeep.o g kT cF;have bz:=cF.lt;have c0:=cF.cells aO (j:=0) (u:=.int .i64 sp.1) rfl;have c1:=cF.cells aO (j:=1) (u:=.int .i64 sp.2.1) rfl;have c2:=cF.cells aO (j:=2) (u:=.int .i64 sp.2.2.1) rfl;have c3:=cF.cells aO (j:=3) (u:=.int .i64 sp.2.2.2) rfl;rw[AF]at c0;have Hblk:=Z cF;have fT:(acc.map Prod.fst)[j]? =some e0.1:=by rw[Ak,cz.o.at0];rfl
   have hjL:j<L:=by
    have:=(A5.1 fT).1;rw[Ay]at this;rw[HL.o];exact this
   obtain⟨qb,qc',u,dX,hqb,nQ,hiu⟩:=aG.o.q.at fT;obtain⟨rfl,-⟩:qa=some ⟨qb,0,none⟩∧qc=qc':=by
    simp only[Value.slice.injEq]at dX;exact⟨dX.1,dX.2.2⟩
   have ld:=Z hiu;obtain⟨ua,uc,rfl,-⟩:=hiu.qag;have HU:=Z (show ∀w',Below wi.heap.size wi w'→AI w' _ e0.1 from fun w' hb=>(ld.o.pure hb).qag);have bn:=Z (Below.qab wi (.cells (G8 sp).toArray 65));have iT:=Cu iQ fo;have f4:=Kd iT hr5 hc5;have ap:=Kd iQ hr5 hc5;obtain⟨KX,hKX⟩:∃KX,KX=BN r c (Ba e0.1 sp):=⟨_,rfl⟩;obtain⟨K0,hK0⟩:∃K0,K0=BN r c e0.1:=⟨_,rfl⟩;rw[←hKX]at f4;rw[←hK0]at ap;have sZ:=Z hKX;have HK0:=Z hK0;have dP:=Z fo;have eG:=Z aO;clear he dX hiu cF fT fo aO hKX hK0;go_wp2;go_region_with (go_at_call 37;refine(K9 _ e0.1 r c sp _ (HU.o _ (by exact⟨bn.o.os,bn.o.tape,bn.o.output,bn.o.size,bn.o.block⟩)) iQ hr1 hr5 hc1 hc5 dP.o).mono ?_;rintro e u1 ⟨x1,rfl,q1,d1⟩)
   all_goals
    have hd:Below wi.heap.size wi u1:=bn.o.qaa (by exact⟨d1.os,d1.tape,d1.output,d1.size,d1.block⟩) (A2 _);have cZ:=Z (aG.o.pure hd);have HX:=Z (show O2 w.heap.size u1 x1 (Ba e0.1 sp)from O2.qbk q1);obtain⟨xa,xn,xc,rfl⟩:=q1.shape;have iU:=Z (show ∀g,wo.heap.size≤g→C4 wS g ss→C4 u1 g ss from fun g h1 h2=>(Hkeep.o g h1 h2).pure hd);have HU1:=Z (ld.o.pure hd);have bY:=Kz hs2 cz.o.path;have l6:=Z bY;obtain⟨sn,hsn⟩:∃sn,sn=acc.any (fun x=>decide (x.1=Ba e0.1 sp)):=⟨_,rfl⟩;have sR:=Z hsn;have wE:=cZ.o.map.look_ok f4;rw[show(Fl r c acc KX).isSome=sn from by rw[sZ.o,hsn];exact A0A hc1 bY iT]at wE;obtain⟨FV,hFV⟩:∃FV,FV=(Fl r c acc KX).getD 0:=⟨_,rfl⟩;rw[←hFV]at wE;have bT:=Z (show LF r c t j e0 (ss.take (k+1)) (Qd e0 acc sp)from by
     rw[Ao,eG.o];refine cz.o.step dP.o fun s1 cQ=>?_;obtain⟨i,hi,e⟩:=List.getElem_of_mem cQ;rw[List.getElem_take]at e;rw[At]at hi;obtain⟨fH,jp⟩:=A5.1 eG.o;have:=List.pairwise_iff_getElem.1 jF.o i k J fH J;rw[e,jp]at this;exact this)
    have lH:=hd.size;have hcu1:=(hd.cell (p:=⟨qb,j,none⟩) hqb).trans nQ;have hqb1:qb<u1.heap.size:=J;clear hsn hFV bY q1 d1 hd c0 c1 c2 c3;go_wp2_with fail;refine(JM _ (Ba e0.1 sp) r c _ HX.o.qag iT hr1 hr5 hc1 hc5).mono ?_;rintro e w' ⟨rfl,rfl⟩;rw[←sZ.o];cases sn
    ·have he0m:e0∈acc:=A4 cz.o.at0;have tI:Fl r c acc K0=some e0.2.length:=by rw[HK0.o];exact A34 hc1 l6.o cz.o.nodup he0m
     have hP0:=cz.o.len j e0 cz.o.at0;obtain⟨P0,hP0e⟩:∃P0,P0=e0.2.length:=⟨_,rfl⟩;rw[←hP0e]at tI hP0;have HP0:=Z hP0e;have HFd:=Z (show Il u1.drew bm acc.length (Fl r c acc)from cZ.o.map.same rfl);have hlk0:=HFd.o.look ap;rw[tI,Option.getD_some]at hlk0;obtain⟨w4,hst4,hf4,g6⟩:=HFd.o.store (v:=P0+1) f4 J (by rw[←HL.o];omega);rw[show((P0+1:Nat):Int)=(P0:Int)+1 from rfl]at hst4;have hwk:IntKind.i64.wrap ((P0:Int)+1)=(P0:Int)+1:=by rw[IntKind.wrap_i64];omega
     have Hf4:=Z hf4;have pV:=Z (show AO (fun x=>x=bm) u1 w4 from⟨g6.os,g6.tape,g6.output,g6.size,g6.block⟩);have HXd:=Z (show AI u1.drew (.slice xa xn xc) (Ba e0.1 sp)from HX.o.qag);have HUd:=Z (show AI u1.drew (.slice ua e0.1.length uc) e0.1 from HU1.o.qag);have hnm:∀x,x=bm→¬Tg w.heap.size u1 x:=fun x e=>by subst e;exact QI xQ cZ.o.map
     have HQ4:=Z (cZ.o.q.only pV.o (fun _ h=>h) hnm);have ut:=Z (HX.o.only pV.o hnm);have nH:=Z (show ∀g,wo.heap.size≤g→C4 wS g ss→C4 w4 g ss from fun g h1 h2=>(iU.o g h1 h2).only pV.o (fun e=>by have e:g=bm:=e;omega));have xr:=Z (show Below w.heap.size w w4 from cZ.o.bel.trans (pV.o.below cZ.o.bel.size fun x e=>by have e:x=bm:=e;omega));have bq:=Z (show LF r c t j e0 (ss.take (k+1)) (acc++[(Ba e0.1 sp,e0.2++[sp])])from by
      have h:=bT.o;unfold Qd at h;rwa[if_neg (by rw[←sR.o];simp)]at h)
     have wF:=Z (show Fl r c (acc++[(Ba e0.1 sp,e0.2++[sp])])=YI (Fl r c acc) KX (P0+1)from by
      rw[X8 (e:=(Ba e0.1 sp,e0.2++[sp])) hc1 l6.o iT sR.o.symm,sZ.o,Ad,←HP0.o];rfl)
     have hwi:wi.heap.size≤u1.heap.size:=lH;have ka:L=(acc.map Prod.fst).length:=by rw[Ay];exact HL.o
     have nV:=Z ka;clear tI hP0e hf4 g6 ka lH;go_wp2;go_region_with (first|(go_at_call 161;first|(with_reducible refine(JM _ (Ba e0.1 sp) r c _ HXd.o iT hr1 hr5 hc1 hc5).mono ?_;rintro e w' ⟨rfl,rfl⟩;rw[←sZ.o])|(with_reducible refine(JM _ e0.1 r c _ HUd.o iQ hr1 hr5 hc1 hc5).mono ?_;rintro e w' ⟨rfl,rfl⟩;rw[←HK0.o])))
     all_goals
      obtain⟨us,cf,ct,hq3⟩:=HQ4.o.q;have fE:=Z cf;have q8:us.length<1099511627776:=by rw[ct,←nV.o];omega
      have hbm4:=Hf4.o.lt;clear cf;go_wp2_with (first|(at_builtin;(refine GM (w0:=w4) rfl _ _ 77 rfl EW 31 underlying77 V2 rfl Jq (fun x=>w.heap.size≤x∧¬x=bm∧x<w4.heap.size) (fun _=>False) (fun x=>w.heap.size≤x∧¬x=bm) _ (.slice xa xn xc) us (.slice xa xn xc) rfl rfl (by exact fE.o) (by exact⟨rfl,rfl⟩) (fun _ _ h=>h) (fun _ h=>h.2.2) (fun _ h=>h.elim) (fun _ h=>⟨h.1,h.2.1⟩) (fun _ h=>h.elim) (fun x hx=>⟨J,J⟩) q8 ?_);intro v7 w7 o7 ho7)|fail);have aB:=HQ4.o.qbl;have hQ7:FM w.heap.size (fun x=>x=bm) w7 v7 (acc.map Prod.fst++[Ba e0.1 sp]):=FM.push ct hq3 (fun x hx=>(aB x hx).2.2.2.2) ut.o o7 ho7;have hF7:Il w7 bm (acc.length+1) (YI (Fl r c acc) KX (P0+1)):=Hf4.o.same (ho7.block bm hbm4 fun e=>(aB bm e).2.1 rfl);have hB7:Below w.heap.size w w7:=xr.o.trans (ho7.below xr.o.size fun x hx=>(aB x hx).1);have kE:=Z (show QSt w w7 v7 bm (acc++[(Ba e0.1 sp,e0.2++[sp])]).length ((acc++[(Ba e0.1 sp,e0.2++[sp])]).map Prod.fst) (Fl r c (acc++[(Ba e0.1 sp,e0.2++[sp])]))from by
       rw[Ad,List.map_append,wF.o];exact⟨hQ7,hF7,hB7,xQ⟩)
      have iV:=Z (show ∀g,wo.heap.size≤g→C4 wS g ss→C4 w7 g ss from fun g h1 h2=>(nH.o g h1 h2).only ho7 (fun e=>by
       obtain⟨arr,ha⟩:=(aB g e).2.2.2.1;exact(nH.o g h1 h2).qav ha Jq rfl))
      exact⟨⟨k+1,_,J,by go_num,bq,kE,iV⟩,by simp[intOf];omega⟩
    ·have Hp:=Z (show LF r c t j e0 (ss.take (k+1)) acc from by
      have h:=bT.o;unfold Qd at h;rwa[if_pos sR.o.symm]at h)
     clear nQ hcu1;go_wp2;go_roundw;exact⟨k+1,acc,J,by go_num,Hp,cZ,iU⟩;exact Jv
  ·obtain rfl:k=N:=J;have mQ:=Z (show K6 r c t (j+1) acc from by
    have h:=cz.o;rw[A9 (by rw[←HN.o];exact A2 _),mJ.o]at h;exact h.last)
   go_wp2;go_roundw;exact⟨j+1,acc,yh,by go_num,mQ,aG⟩;exact Jv
 ·have eh:acc.length≤j:=by rw[←HL.o];omega
  have aT:=Z (A0k aR.o d9.o eh);have wG:=Z (fun g p=>A2B (g:=g) (p:=p) aR.o d9.o eh);have oh:=Z aG.o.map;have HGm:=Z (Hv.o.keep aG.o.bel);have hbmo:=aG.o.map.lt;have bbw:=aG.o.bel;obtain⟨F,hF⟩:∃F,F=Fl r c acc:=⟨_,rfl⟩;obtain⟨NA,hNA⟩:∃NA,NA=acc.length:=⟨_,rfl⟩;rw[←hF]at aT oh;rw[←hNA]at oh;obtain⟨NM,hNM,hfm,hnm⟩:=aT.o m aR.o.sums;have xq:=Z hfm;have wH:=Z (O2.qbj HGm.o (A2 _));clear hF hNA d9 aG HL hfm eh hNM;go_wp2;go_loopw [15,16,18,19,20] (fun ov av _ _ _ wr=>∃(g:I)(p:List Sw)(n:Nat),Hid (Da (Ae m) (Al m) r c g)∧Hid (O2 wo.heap.size wr av g)∧Hid (Cw wo.heap.size wr ov p)∧Hid (∀q,MA r c t g q→MA r c t m (p++q))∧Hid (V4 r c t g n)∧p.length+n=NM∧Hid (Below wo.heap.size wo wr)) (fun ov _ _ _ _ _=>NM-A4E ov);exact⟨m,[],NM,Z aR.o.sums,wH,Z (Cw.nil _ _),Z fun q h=>h,xq,Jj,Z (A6 _ _)⟩;clear wH xq;obtain⟨g,p,n,Hg,Hi,Hop,Hdn,Hfar,hpn,Hb⟩:=hrel;obtain⟨wd,rfl⟩:∃wd:World,wd=wr:=⟨_,rfl⟩;have jR:=Hg.o.1;have hkg:=Kd jR hr5 hc5;obtain⟨KG,hKG⟩:∃KG,KG=BN r c g:=⟨_,rfl⟩;rw[←hKG]at hkg;have HKG:=Z hKG;have wI:=Z (oh.o.pure Hb.o);have wE:=wI.o.look hkg;obtain⟨n',ep,f9,hn3⟩:=aT.o g Hg.o;obtain rfl:n'=n:=f9.eq Hfar.o;rw[←hKG]at ep;have pA:=Z ep;rw[ep,Option.getD_some]at wE;obtain⟨ga,gc,rfl,-⟩:=Hi.o.qag;obtain⟨oa,oc,rfl⟩:=Hop.o.shape;have hple:p.length≤NM:=J;clear hKG ep f9;by_cases dS:n'=0
  ·subst dS;have iW:=Z (wG.o g p Hdn.o Hfar.o);have js:=bbw.qaa Hb.o (A2 _);have Hop2:=Z (Hop.o.low bbw.size);go_wp2_with fail;refine(JM _ g r c _ Hi.o.qag jR hr1 hr5 hc1 hc5).mono ?_;rintro e w' ⟨rfl,rfl⟩;rw[←HKG.o];go_wp2;refine Jz #[.slice oa p.length oc,.bool true] (by simp[results,results96,go_sem]) ?_;exact⟨_,p,rfl,iW.o,J,Hop2.o,js⟩
  have hnp:decide ((0:Int)<(n':Int))=true:=by rw[Ah];omega
  have jE:=Ii hr4 hc4 g;have dQ:=Z (show ∀s∈Bj r c g,CL r c g s from fun s hs=>DD.1 hs);have nI:=Z (show ∀s,CL r c g s→s∈Bj r c g from fun s hs=>DD.2 hs);have jF:=Z (G9 hr5 hc5 g);obtain⟨ss,iR⟩:∃ss,ss=Bj r c g:=⟨_,rfl⟩;rw[←iR]at dQ nI jE jF;have mJ:=Z iR;clear iR;go_wp2_with fail;refine(JM _ g r c _ Hi.o.qag jR hr1 hr5 hc1 hc5).mono ?_;rintro e w' ⟨rfl,rfl⟩;rw[←HKG.o];go_wp2_with fail;refine(Ls _ g r c _ Hi.o.qag jR hr1 hr5 hc1 hc5).mono ?_;rintro e wS ⟨vs,rfl,oS,bS⟩;rw[←mJ.o]at oS;have pJ:=Z (show 0<ss.length→∃g cap,vs=.slice (some ⟨g,0,none⟩) ss.length cap∧wd.heap.size≤g∧C4 wS g ss from fun h=>oS.blk h);obtain⟨sa,sc,rfl⟩:=oS.shape;obtain⟨N,hN⟩:∃N,N=ss.length:=⟨_,rfl⟩;rw[←hN]at jE pJ⊢;have HN:=Z hN;have HbS:=Z (Hb.o.qaa bS (A2 _));have HiS:=Z (Hi.o.pure bS);have HopS:=Z (Hop.o.keep bS);clear hN oS wE;go_wp2;go_loopw [15,16,18,19,20,102] (fun ov av _ _ _ i wr=>∃k:Nat,k≤N∧i=.int .i64 k∧ov=.slice oa p.length oc∧av=.slice ga g.length gc∧Hid (∀(i:Nat)(s:Sw),i<k→ss[i]? =some s→∀z,V4 r c t (Ba g s) z→n'≤z)∧Hid (Below wS.heap.size wS wr)) (fun _ _ _ _ _ i _=>N-(intOf i).toNat);exact⟨0,A7 _,rfl,rfl,rfl,Z fun i s h=>absurd h (Nat.not_lt_zero _),Z (A6 _ _)⟩;obtain⟨k,hk,rfl,rfl,rfl,fW,d9⟩:=hrel;obtain⟨wi,rfl⟩:∃wi:World,wi=wr:=⟨_,rfl⟩;by_cases hltk:k<N
  ·obtain⟨sp,aO⟩:∃sp,ss[k]? =some sp:=⟨_,A3 (by rw[←HN.o];exact hltk)⟩;have fo:=dQ.o sp (A4 aO);obtain⟨gb,cap,he,kT,cF⟩:=pJ.o J;obtain⟨rfl,-⟩:sa=some ⟨gb,0,none⟩∧sc=cap:=by
    simp only[Value.slice.injEq]at he;exact⟨he.1,he.2.2⟩
   have cF:=cF.pure d9.o;have bz:=cF.lt;have c0:=cF.cells aO (j:=0) (u:=.int .i64 sp.1) rfl;have c1:=cF.cells aO (j:=1) (u:=.int .i64 sp.2.1) rfl;have c2:=cF.cells aO (j:=2) (u:=.int .i64 sp.2.2.1) rfl;have c3:=cF.cells aO (j:=3) (u:=.int .i64 sp.2.2.2) rfl;rw[AF]at c0;have Hiw:=Z (HiS.o.pure d9.o);have bn:=Z (Below.qab wi (.cells (G8 sp).toArray 65));have iS:=Z (B9.new wi (G8 sp).toArray 65);have iT:=Cu jR fo;have f4:=Kd iT hr5 hc5;obtain⟨KX,hKX⟩:∃KX,KX=BN r c (Ba g sp):=⟨_,rfl⟩;rw[←hKX]at f4;have sZ:=Z hKX;have dP:=Z fo;have eG:=Z aO;have kV:=DO Hg.o fo;obtain⟨z,bL,bQ,fF⟩:=aT.o _ kV;rw[←hKX]at bL;have rq:=Z bL;have sX:=Z bQ;have pT:=Z kV;have HgN:=Z ((Hiw.o.pure bn.o).qag);clear he cF fo aO hKX kV bL bQ;go_wp2_with fail;refine(K9 _ g r c sp _ HgN.o jR hr1 hr5 hc1 hc5 dP.o).mono ?_;rintro e u1 ⟨x1,rfl,q1,d1⟩;have hd:Below wi.heap.size wi u1:=bn.o.qaa d1 (A2 _);have HX:=Z (show O2 wo.heap.size u1 x1 (Ba g sp)from O2.qbk q1);obtain⟨xa,xn,xc,rfl⟩:=q1.shape;have ld:=Z (Hiw.o.pure hd);have Hbu:=Z (show Below wS.heap.size wS u1 from d9.o.qaa hd (A2 _));have nR:=Z (show Below wo.heap.size wo u1 from HbS.o.qaa Hbu.o (A2 _));have Hfu:=Z (oh.o.pure nR.o);have eJ:∀n,(Instr.lookup 145 (.map (some bm)) (.int .i64 (KX:Int)) false).run prog (u1.drewN n)=.ok (.int .i64 (z:Int)) (u1.drewN n):=fun n=>by
    have h:=(Hfu.o.same (w':=u1.drewN n) rfl).look f4;rwa[rq.o,Option.getD_some]at h
   have fl:∀n,(Instr.lookup 145 (.map (some bm)) (.int .i64 (KG:Int)) false).run prog (u1.drewN n)=.ok (.int .i64 (n':Int)) (u1.drewN n):=fun n=>by
    have h:=(Hfu.o.same (w':=u1.drewN n) rfl).look hkg;rwa[pA.o,Option.getD_some]at h
   have fE:=Z (show ∀n,Calls prog 161 #[.slice xa xn xc] (u1.drewN n) fun e w'=>e=.returned (.int .i64 (KX:Int))∧w'=u1.drewN n from fun n=>(JM _ (Ba g sp) r c (u1.drewN n) (HX.o.qag.keep (below_drewN (A6 _ _) n)) iT hr1 hr5 hc1 hc5).mono fun e w' ⟨he,hw⟩=>⟨by rw[he,sZ.o],hw.symm⟩);have iE:=Z (show ∀n,Calls prog 161 #[.slice ga g.length gc] (u1.drewN n) fun e w'=>e=.returned (.int .i64 (KG:Int))∧w'=u1.drewN n from fun n=>(JM _ g r c (u1.drewN n) (ld.o.qag.keep (below_drewN (A6 _ _) n)) jR hr1 hr5 hc1 hc5).mono fun e w' ⟨he,hw⟩=>⟨by rw[he,HKG.o],hw.symm⟩);have jq:=Z (iS.o.keep d1);have Hop1:=Z (HopS.o.keep Hbu.o);clear q1 hd c0 c1 c2 c3 d1;go_wp2;go_quiet ((first|(go_at_call 161;with_reducible exact Calls.quiet_of_same (fE.o _))|(go_at_call 161;with_reducible exact Calls.quiet_of_same (iE.o _))));obtain⟨wz,hwz⟩:∃wz,wz=u1.drewN nq:=⟨_,rfl⟩;have io:Below u1.heap.size u1 wz:=by rw[hwz];exact below_drewN (A6 _ _) nq
   rw[←hwz];have k0:wz.cell? ⟨wi.heap.size,0,none⟩=some (.int .i64 sp.1):=(jq.o.keep io).cell 0;have k1:wz.cell? ⟨wi.heap.size,1,none⟩=some (.int .i64 sp.2.1):=(jq.o.keep io).cell 1;have k2:wz.cell? ⟨wi.heap.size,2,none⟩=some (.int .i64 sp.2.2.1):=(jq.o.keep io).cell 2;have k3:wz.cell? ⟨wi.heap.size,3,none⟩=some (.int .i64 sp.2.2.2):=(jq.o.keep io).cell 3;have xt:=Z io;have Hz3:=Z (show ∀(i:Nat)(s:Sw),i<k+1→ss[i]? =some s→n'≤z→∀z',V4 r c t (Ba g s) z'→n'≤z' from fun i s hi hs hz z' jm=>by
    by_cases h:i<k
    ·exact fW.o i s h hs z' jm
    ·obtain rfl:i=k:=J;rw[eG.o]at hs;obtain rfl:=Option.some.inj hs;rw[←sX.o.eq jm];exact hz)
   clear hwz io eJ fl;by_cases hzn:z<n'
   ·have tT:decide ((z:Int)<(n':Int))=true:=by rw[Ah];omega
    have dO:=A2s jR Hfar.o dP.o sX.o;obtain rfl:n'=z+1:=J;have iD:=Z (B9.new wz (G8 sp).toArray 65);have gH:=Z (Below.qab wz (.cells (G8 sp).toArray 65));have rr:=Z ((Hop1.o.keep xt.o).keep gH.o);have ji:=Z (show Below wo.heap.size wo (wz.alloc (.cells (G8 sp).toArray 65))from nR.o.qaa (xt.o.qaa gH.o (A2 _)) (A2 _));have aN:p.length<1073741824:=J;have jJ:=ji.o.size;have Hdn2:=Z (show ∀q,MA r c t (Ba g sp) q→MA r c t m (p++[sp]++q)from fun q hq=>by
     rw[List.append_assoc];refine Hdn.o _ (.step Hfar.o dP.o sX.o (fun s' dY wJ k' kI=>?_) hq);obtain⟨i,hi,e⟩:=List.getElem_of_mem (nI.o s' dY);obtain⟨fH,jp⟩:=A5.1 eG.o;have xm:i<k:=by
      rcases Nat.lt_trichotomy i k with h|h|h
      ·exact h
      ·subst h;rw[jp]at e;subst e;omega
      ·have:=List.pairwise_iff_getElem.1 jF.o k i fH hi h;rw[e,jp]at this;omega
     exact fW.o i s' xm (by rw[←e];exact A3 hi) k' kI)
    go_wp2_with (first
     |(at_builtin;(refine KO (w:=wz.alloc (.cells (G8 sp).toArray 65)) (v:=.slice oa p.length oc) (l:=p) (gb:=wz.heap.size) (c:=1) rfl _ _ 116 rfl underlying116 K8 rfl Jq wo.heap.size sp rfl rfl (by exact iD.o) (by exact rr.o) aN (by exact jJ) ?_);intro v4 w4 o4 b4)
     |fail)
    have ut:=Z (show O2 wo.heap.size w4 (.slice xa xn xc) (Ba g sp)from((HX.o.pure xt.o).pure gH.o).only b4 (fun x hx=>rr.o.not_img x hx));have xr:=Z (show Below wo.heap.size wo w4 from ji.o.trans (b4.below jJ fun x hx=>(rr.o.lt x hx).1));have hl4:(p++[sp]).length=p.length+1:=by rw[Ad];rfl
    have fQ:=Z o4;obtain⟨y1,y2,rfl⟩:=o4.shape;exact⟨⟨Ba g sp,p++[sp],z,pT,ut,fQ,Hdn2,sX,by rw[hl4];omega,xr⟩,by simp[A4E];omega⟩
   ·have tT:decide ((z:Int)<(n':Int))=false:=by rw[decide_eq_false_iff_not];omega
    have kC:=Z (show ∀(i:Nat)(s:Sw),i<k+1→ss[i]? =some s→∀z,V4 r c t (Ba g s) z→n'≤z from fun i s hi hs z' jm=>Hz3.o i s hi hs J z' jm);have mQ:=Z (Hbu.o.qaa xt.o (A2 _));clear k0 k1 k2 k3;go_wp2;go_roundw;exact⟨k+1,J,by go_num,rfl,rfl,kC,mQ⟩;exact Jv
  ·exfalso;obtain⟨n2,rfl⟩:∃n2,n'=n2+1:=⟨n'-1,J⟩;obtain⟨s,cQ,p1,hp1,jj⟩:=A31 hs2 Hfar.o;obtain⟨i,hi,rfl⟩:=List.getElem_of_mem (nI.o s cQ);obtain⟨z,-,bQ,-⟩:=aT.o _ (DO Hg.o cQ);have h1:=fW.o i _ (by have:=HN.o;omega) (A3 hi) z bQ;have h2:=bQ.2 p1 hp1;omega
def OH(s:Sw):ByteArray:=GD s.1 s.2.1 s.2.2.1 s.2.2.2
def Ew(W:List Sw)(k:Nat):ByteArray:=(W.take k).foldl (fun acc s=>acc++(⟨#[32]⟩++OH s)) (AQ (W.length:Int)++⟨#[32,115,119,105,116,99,104,101,115]⟩)
theorem KJ(W:List Sw):Ew W 0=AQ (W.length:Int)++⟨#[32,115,119,105,116,99,104,101,115]⟩:=rfl
theorem L6{k:Nat}(h:W[k]? =some s):Ew W (k+1)=Ew W k++(⟨#[32]⟩++OH s):=by
 unfold Ew;rw[Ao,h,List.foldl_append];rfl
def Vc(s:Sw):Prop:=s.1≤100∧s.2.1≤100∧s.2.2.1≤100∧s.2.2.2≤100
theorem La(hr:r≤5)(hc:c≤5):∀{p:List Sw}{g h:I},CT r c g p h→∀s∈p,Vc s
 |[],_,_,_,s,hs=>by simp at hs
 |x::p,g,h,hp,s,hs=>by
  obtain⟨h1,h2⟩:=hp;rcases List.mem_cons.1 hs with rfl|hs
  ·obtain⟨a1,a2,a3,a4,-⟩:=h1;unfold Sw.y1 Sw.y2 at a1;unfold Sw.y2 at a2;unfold Sw.x1 Sw.x2 at a3;unfold Sw.x2 at a4;exact⟨J,J,J,J⟩
  ·exact La hr hc h2 s hs
theorem Od(h:Vc s):(OH s).size≤84:=by
 obtain⟨h1,h2,h3,h4⟩:=h;have hI:∀n:Nat,n≤100→Cc (n:Int):=fun n hn=>Cc.small J J;unfold OH GD;have:=Nk (sep:=⟨#[58]⟩) (l:=[(s.1:Int),s.2.1,s.2.2.1,s.2.2.2]) Jq (fun x hx=>by
  simp only[List.mem_cons,List.not_mem_nil,or_false]at hx;rcases hx with rfl|rfl|rfl|rfl
  ·exact hI _ h1
  ·exact hI _ h2
  ·exact hI _ h3
  ·exact hI _ h4)
 simpa using this
theorem It(hl:W.length≤33554432)(hs:∀s∈W,Vc s):∀k,(Ew W k).size≤40+100*k
 |0=>by
  have e1:(⟨#[32,115,119,105,116,99,104,101,115]⟩:ByteArray).size=9:=rfl;have:=CW (n:=(W.length:Int)) J;rw[KJ,AR,e1];omega
 |k+1=>by
  have ih:=It hl hs k;cases e:W[k]? with
  |none=>
   have:Ew W (k+1)=Ew W k:=by unfold Ew;rw[Ao,e];simp
   rw[this];omega
  |some s=>
   have e2:(⟨#[32]⟩:ByteArray).size=1:=rfl;have:=Od (hs s (A4 e));rw[L6 e,AR,AR,e2];omega
theorem A1i(a b c:ByteArray):a++(b++c)=a++b++c:=by
 apply DX;simp only[Cm,List.append_assoc]
theorem YQ(v v2:Value)(m t:I)(r c:Nat)(w:World)(hv:AI w v m)(aS:AI w v2 t)(hs:Ax r c m)(hs2:Ax r c t)(hr1:1≤r)(hr4:r≤4)(hc1:1≤c)(hc4:c≤4)(e1:Ae m=Ae t)(e2:Al m=Al t)(ht:Tab w):
  Calls prog 40 #[v,v2] w fun e w'=>∃W,Ki r c m t W∧e=.returned (.string (Ew W W.length))∧Below w.heap.size w w':=by
 have Hv:=Z hv;have aY:=Z aS;have HT:=Z ht;have E1:=Z e1;have E2:=Z e2;obtain⟨a,cap,rfl,-⟩:=hv;obtain⟨a2,cap2,rfl,-⟩:=aS;clear e1 e2 ht;go_enter func40,ntmps40;go_wp2_with fail;refine(A2Y _ _ m t r c _ Hv.o aY.o hs hs2 hr1 hr4 hc1 hc4 E1.o E2.o).mono ?_;rintro e w1 ⟨v1,W,rfl,hW,hWl,oW,b1⟩;have HW:=Z hW;have gp:=La J J hW.1;have mS:=Z gp;have bX:=Z (It hWl gp);have lL:=Z (KJ W);have bT:=Z (fun k s=>L6 (W:=W) (k:=k) (s:=s));have cT:=CW (n:=(W.length:Int)) J;have aC:=Z oW;obtain⟨wa,wc,rfl⟩:=oW.shape;obtain⟨NW,hNW⟩:∃NW,NW=W.length:=⟨_,rfl⟩;have oA:=Z (HT.o.keep b1);rw[←hNW]at hWl cT lL aC⊢;have sL:=Z hNW;clear hW gp hNW oW;go_wp2_with fail;refine(DQ _ (Cc.small J J) _ oA.o).mono ?_;rintro e w2 ⟨rfl,b2⟩;have nu:=b1.qaa b2 (A2 _);have aX:=Z (aC.o.keep b2);have HT2:=Z (oA.o.keep b2);obtain⟨F0,eS⟩:∃F0,F0=AQ (NW:Int):=⟨_,rfl⟩;rw[←eS]at lL cT⊢;clear eS;go_wp2;go_loopw [7,9,24] (fun s _ i wr=>∃k:Nat,k≤NW∧i=.int .i64 k∧s=.string (Ew W k)∧Hid (Below w2.heap.size w2 wr)) (fun _ _ i _=>NW-(intOf i).toNat);exact⟨0,A7 _,rfl,by rw[lL.o],Z (A6 _ _)⟩;obtain⟨k,hk,rfl,rfl,Hb⟩:=hrel;obtain⟨wi,rfl⟩:∃wi:World,wi=wr:=⟨_,rfl⟩;by_cases aF:k<NW
 ·obtain⟨sp,aO⟩:∃sp,W[k]? =some sp:=⟨_,A3 (by rw[←sL.o];exact aF)⟩;obtain⟨g,cp,he,-,bz,-,bJ⟩:=aX.o.at (by rw[←sL.o];omega);obtain⟨rfl,-⟩:wa=some ⟨g,0,none⟩∧wc=cp:=by
   simp only[Value.slice.injEq]at he;exact⟨he.1,he.2.2⟩
  have c0:=(Hb.o.cell (p:=⟨g,k*4+0,none⟩) bz).trans (bJ k sp aO 0 (.int .i64 sp.1) rfl);have c1:=(Hb.o.cell (p:=⟨g,k*4+1,none⟩) bz).trans (bJ k sp aO 1 (.int .i64 sp.2.1) rfl);have c2:=(Hb.o.cell (p:=⟨g,k*4+2,none⟩) bz).trans (bJ k sp aO 2 (.int .i64 sp.2.2.1) rfl);have c3:=(Hb.o.cell (p:=⟨g,k*4+3,none⟩) bz).trans (bJ k sp aO 3 (.int .i64 sp.2.2.2) rfl);rw[AF]at c0;have gp:=mS.o sp (A4 aO);have aM:=bX.o k;have hz:=Od gp;have aG:=Z (bT.o k sp aO);have fO:=Z (Below.qab wi (.cells (G8 sp).toArray 65));have HTx:=Z ((HT2.o.keep Hb.o).keep fO.o);obtain⟨h1,h2,h3,h4⟩:=gp;obtain⟨P,hP⟩:∃P,P=Ew W k:=⟨_,rfl⟩;rw[←hP]at aM aG⊢;have ix:GD sp.1 sp.2.1 sp.2.2.1 sp.2.2.2=OH sp:=rfl;have yw:=Z ix;have bQ:(⟨#[32]⟩++OH sp:ByteArray).size≤85:=by
   have e2:(⟨#[32]⟩:ByteArray).size=1:=rfl;rw[AR,e2];omega
  clear he bJ aO hP ix;go_wp2_with fail;refine(RR sp.1 sp.2.1 sp.2.2.1 sp.2.2.2 (Cc.small J J) (Cc.small J J) (Cc.small J J) (Cc.small J J) _ HTx.o).mono ?_;rintro e w3 ⟨rfl,b3⟩;rw[yw.o];obtain⟨S,hS⟩:∃S,S=OH sp:=⟨_,rfl⟩;rw[←hS]at hz bQ aG⊢;have bN:=Z (Hb.o.qaa (fO.o.qaa b3 (A2 _)) (A2 _));clear hS c0 c1 c2 c3;go_wp2;go_roundw;exact⟨k+1,J,by go_num,by rw[aG.o],bN⟩;exact Jv
 ·obtain rfl:k=NW:=J;have js:=nu.qaa Hb.o (A2 _);go_wp2
  go_ret
  exact⟨W,HW.o,by rw[←sL.o];rfl,js⟩
def Ik(m t:I):Bool:=E8 m t&&(decide (m.length≤4)&&decide ((m.headD []).length≤4))
def Qw(m t:I)(T:ByteArray):Prop:=(Ik m t=true→∃W,Ki m.length (m.headD []).length m t W∧T=Ew W W.length)∧(Ik m t=false→T=⟨#[110,111,110,101]⟩)
theorem Qw.eq{T S:ByteArray}(h:Qw m t T)(h2:Qw m t S):T=S:=by
 cases e:Ik m t
 ·rw[h.2 e,h2.2 e]
 ·obtain⟨W,a1,a2⟩:=h.1 e;obtain⟨V,b1,b2⟩:=h2.1 e;rw[a2,b2,a1.eq b1]
structure Rx(m t:I)(r c:Nat):Prop where
 hs:Ax r c m
 hs2:Ax r c t
 hr1:1≤r
 hr5:r≤5
 hc1:1≤c
 hc5:c≤5
 e1:Ae m=Ae t
 e2:Al m=Al t
 l1:m.length=r
 l2:(m.headD []).length=c
theorem PW(h:E8 m t=true):∃r c,Rx m t r c:=by
 unfold E8 at h;simp only[Af,Ah]at h;obtain⟨h1,h2,h3⟩:=h;obtain⟨r,c,a1,a2,a3,a4,a5,a6⟩:=Vi h1;obtain⟨b1,b2⟩:=DF a5 a1;exact⟨r,c,a5,a6,a1,a2,a3,a4,h2,h3,b1,b2⟩
theorem Mj(h:Ik m t=true):E8 m t=true∧∃r c,Rx m t r c∧r≤4∧c≤4:=by
 unfold Ik at h;simp only[Af,Ah]at h;obtain⟨h1,h2,h3⟩:=h;obtain⟨r,c,ha⟩:=PW h1;exact⟨h1,r,c,ha,by rw[←ha.l1];exact h2,by rw[←ha.l2];exact h3⟩
theorem ZQ(v v2:Value)(m t:I)(w:World)(hv:AI w v m)(aS:AI w v2 t)(mR:Ik m t=false):Calls prog 96 #[v,v2] w fun e w'=>e=.returned (.tuple #[.slice none 0 0,.bool false])∧Below w.heap.size w w':=by
 have Hv:=Z hv;have aY:=Z aS;cases dr:E8 m t
 ·obtain⟨a,cap,rfl,-⟩:=hv;obtain⟨a2,cap2,rfl,-⟩:=aS;have lh:=Z dr;clear dr mR;go_enter func96,ntmps96;go_wp2_with fail;refine(NR _ _ m t _ Hv.o aY.o).mono ?_;rintro e w1 ⟨rfl,b1⟩;rw[lh.o];go_wp2;refine Jz #[.slice none 0 0,.bool false] (by simp[results,results96,go_sem]) ?_;exact⟨rfl,b1⟩
 obtain⟨r,c,ha⟩:=PW dr;have hrc:¬(r≤4∧c≤4):=by
  intro h;unfold Ik at mR;rw[dr,ha.l1,ha.l2,decide_eq_true h.1,decide_eq_true h.2]at mR;cases mR
 obtain⟨b,off,cp,rfl,hb,hm⟩:=hv.qaw ha.hs.qap ha.hr1 ha.hc1;obtain⟨b0,o0,c0,bZ,-⟩:=hm 0 ha.hr1;obtain⟨a2,cap2,rfl,-⟩:=aS;have lh:=Z dr;have k9:=Z bZ;clear dr mR hm bZ;have hr1:=ha.hr1;have hc1:=ha.hc1;by_cases hr:r≤4
 ·have h1:decide ((4:Int)<(r:Int))=false:=by rw[decide_eq_false_iff_not];omega
  have ly:¬(4:Int)<(r:Int):=J;have h2:decide ((4:Int)<(c:Int))=true:=by rw[Ah];omega
  have nP:(4:Int)<(c:Int):=J;go_enter func96,ntmps96;go_wp2_with fail;refine(NR _ _ m t _ Hv.o aY.o).mono ?_;rintro e w1 ⟨rfl,b1⟩;rw[lh.o];have bZ:=k9.o w1 b1;rw[AF]at bZ;go_wp2;refine Jz #[.slice none 0 0,.bool false] (by simp[results,results96,go_sem]) ?_;exact⟨rfl,b1⟩
 ·have h1:decide ((4:Int)<(r:Int))=true:=by rw[Ah];omega
  have ly:(4:Int)<(r:Int):=J;go_enter func96,ntmps96;go_wp2_with fail;refine(NR _ _ m t _ Hv.o aY.o).mono ?_;rintro e w1 ⟨rfl,b1⟩;rw[lh.o];go_wp2;refine Jz #[.slice none 0 0,.bool false] (by simp[results,results96,go_sem]) ?_;exact⟨rfl,b1⟩
theorem XI(v v2:Value)(m t:I)(w:World)(hv:AI w v m)(aS:AI w v2 t)(ht:Tab w):Calls prog 40 #[v,v2] w fun e w'=>∃T,e=.returned (.string T)∧Qw m t T∧Below w.heap.size w w':=by
 cases hp:Ik m t
 ·have Hp:=Z hp;have Hv:=Z hv;have aY:=Z aS;obtain⟨a,cap,rfl,-⟩:=hv;obtain⟨a2,cap2,rfl,-⟩:=aS;clear hp;go_enter func40,ntmps40;go_wp2_with fail;refine(ZQ _ _ m t _ Hv.o aY.o Hp.o).mono ?_;rintro e w1 ⟨rfl,b1⟩;go_wp2
  go_ret
  exact⟨_,rfl,⟨fun h=>(by rw[Hp.o]at h;cases h),fun _=>rfl⟩,b1⟩
 ·obtain⟨-,r,c,ha,hr4,hc4⟩:=Mj hp;refine(YQ v v2 m t r c w hv aS ha.hs ha.hs2 ha.hr1 hr4 ha.hc1 hc4 ha.e1 ha.e2 ht).mono ?_;rintro e w1 ⟨W,hW,rfl,b1⟩;refine⟨_,rfl,⟨fun _=>⟨W,by rw[ha.l1,ha.l2];exact hW,rfl⟩,fun h=>(by rw[hp]at h;cases h)⟩,b1⟩

/- Base. -/
import Derived.Test.YthmocomfjgmjoaaGreatDoorQ17
set_option maxHeartbeats 6400000
set_option maxRecDepth 100000
namespace Go.Proofs.YthmocomfjgmjoaaGreatDoor
open Go.RowKit
def F9(r c:Nat)(acc:List DW)(k:Nat):Option Nat:=(acc.find? fun e=>decide (BI r c e.1=k)).map fun e=>e.2.length
theorem A1k{r c:Nat}(hc:1≤c){acc:List DW}(bA:∀e∈acc,Ac r c e.1){g:List (List Int)}(hg:Ac r c g):(F9 r c acc (BI r c g)).isSome=acc.any fun x=>decide (x.1=g):=by
 unfold F9;rw[Option.isSome_map,Bool.eq_iff_iff,List.find?_isSome];simp only[List.any_eq_true,decide_eq_true_eq];constructor
 ·rintro⟨e,he,hk⟩;exact⟨e,he,OV hc (bA e he) hg hk⟩
 ·rintro⟨e,he,hk⟩;exact⟨e,he,by rw[hk]⟩
theorem A3O{r c:Nat}(hc:1≤c){acc:List DW}(bA:∀e∈acc,Ac r c e.1)(gT:acc.Pairwise (fun a b=>a.1≠b.1)){e:DW}(he:e∈acc):F9 r c acc (BI r c e.1)=some e.2.length:=by
 unfold F9;cases hf:acc.find? fun x=>decide (BI r c x.1=BI r c e.1) with
 |none=>
  have:=List.find?_eq_none.1 hf e he;simp at this
 |some x=>
  have h1:=List.mem_of_find?_eq_some hf;have h2:=List.find?_some hf;rw[decide_eq_true_eq] at h2;have h3:=OV hc (bA x h1) (bA e he) h2;have h4:x=e:=by
   obtain⟨i,hi,rfl⟩:=List.getElem_of_mem h1;obtain⟨j,hj,rfl⟩:=List.getElem_of_mem he;rcases Nat.lt_trichotomy i j with h|rfl|h
   ·exact absurd h3 (List.pairwise_iff_getElem.1 gT i j hi hj h)
   ·rfl
   ·exact absurd h3.symm (List.pairwise_iff_getElem.1 gT j i hj hi h)
  rw[h4];rfl
theorem X3{r c:Nat}(hc:1≤c){acc:List DW}(bA:∀e∈acc,Ac r c e.1){e:DW}(he:Ac r c e.1)(hn:(acc.any fun x=>decide (x.1=e.1))=false):F9 r c (acc++[e])=A0n (F9 r c acc) (BI r c e.1) e.2.length:=by
 funext k
 unfold A0n;by_cases h:k=BI r c e.1
 ·subst h;rw[if_pos rfl];have h1:=A1k hc bA he;rw[hn] at h1;unfold F9 at h1⊢;rw[List.find?_append];cases hf:acc.find? fun x=>decide (BI r c x.1=BI r c e.1) with
  |none=>simp
  |some x=>rw[hf] at h1;simp at h1
 ·rw[if_neg h];unfold F9;rw[List.find?_append];cases hf:acc.find? fun x=>decide (BI r c x.1=k) with
  |none=>
   have:decide (BI r c e.1=k)=false:=decide_eq_false (fun h2=>h h2.symm);simp[this]
  |some x=>simp
theorem JN{r c:Nat}{g:List (List Int)}(h:Ac r c g)(hr:r≤5)(hc:c≤5):BI r c g<1073741824:=by
 have h1:=XZ h;have h2:2^(r*c)≤2^25:=Nat.pow_le_pow_right (by decide) (Nat.mul_le_mul hr hc);have h3:(2:Nat)^25=33554432:=by decide
 omega
theorem UT:(Tryz.prog.info? 31).map (fun i=>(i.zero,i.size,i.bytes))=some (some (.slice none 0 0),1,24):=by kernel_rfl
structure A0g(r c:Nat)(m t:List (List Int))(NB:Nat):Prop where
 hm:Ac r c m
 ht:Ac r c t
 hr1:1≤r
 hr4:r≤4
 hc1:1≤c
 hc4:c≤4
 nb:NB≤33554432
 sums:CY (A6 m) (A8 m) r c m
 sumt:CY (A6 m) (A8 m) r c t
 boundI:∀j acc,Jv r c t j acc→acc.length≤NB
 boundM:∀j e0 ss acc,Li r c t j e0 ss acc→acc.length≤NB
theorem Wb{r c:Nat}{m t:List (List Int)}(hm:Ac r c m)(ht:Ac r c t)(hr1:1≤r)(hr4:r≤4)(hc1:1≤c)(hc4:c≤4)(e1:A6 m=A6 t)(e2:A8 m=A8 t):∃NB,A0g r c m t NB:=by
 have hS:=Dq hm hr1 (by omega) hc1 (by omega);have hT:=Dq ht hr1 (by omega) hc1 (by omega);rw[←e1,←e2] at hT;have aw:=(Ch hm hr1 (by omega) hc1 (by omega)).1;have az:=(Cl hm hr1 (by omega) hc1 (by omega)).1;have aD:AF (A6 m) (A8 m)=true:=Ip (by omega) (by omega) (by omega) (by omega) (by rw[aw,az];exact hS);have aP:=J3 (A6 m) (A8 m);refine⟨(Bi (A6 m) (A8 m)).length,hm,ht,hr1,hr4,hc1,hc4,?_,hS,hT,fun j acc h=>?_,fun j e0 ss acc h=>?_⟩
 ·rw[aw,az] at aP;exact Nat.le_trans aP (Nat.le_trans (Nat.pow_le_pow_right (by decide) (Nat.mul_le_mul hr4 (Nat.succ_le_succ hc4))) (by decide))
 ·exact Jv.bound (m:=t) (j:=j) aD (by rw[aw,az];exact hT) (by rw[aw,az];exact h)
 ·exact Li.bound (m:=t) (j:=j) (e0:=e0) (ss:=ss) aD (by rw[aw,az];exact hT) (by rw[aw,az];exact h)
theorem JL{r c:Nat}{t:List (List Int)}(ht:Ac r c t){acc:List DW}(h:∀e∈acc,CK r c t e.2 e.1):∀e∈acc,Ac r c e.1:=fun e he=>(h e he).shape ht
structure QSt(w wr:World)(qv:Value)(b n:Nat)(gs:List (List (List Int)))(f:Nat→Option Nat):Prop where
 q:FA w.heap.size (fun x=>x=b) wr qv gs
 map:HQ wr b n f
 bel:Below w.heap.size w wr
 nb:w.heap.size≤b
theorem QSt.pure{w wr w':World}{qv:Value}{b n:Nat}{gs:List (List (List Int))}{f:Nat→Option Nat}(h:QSt w wr qv b n gs f)(hb:Below wr.heap.size wr w'):QSt w w' qv b n gs f:=
 ⟨h.q.pure hb,h.map.pure hb,h.bel.trans_pure hb (Nat.le_refl _),h.nb⟩
theorem QSt.shape{w wr:World}{qv:Value}{b n:Nat}{gs:List (List (List Int))}{f:Nat→Option Nat}(h:QSt w wr qv b n gs f):∃a k c,qv=.slice a k c∧k=gs.length:=by
 obtain⟨a,c,h⟩:=h.q.shape;exact⟨a,_,c,h,rfl⟩
theorem FA.start{n0:Nat}{X:Bk}{w2:World}{u:Value}{t:List (List Int)}(hu:No n0 w2 u t)(h1:u.oneCell'=true)(hn:n0≤w2.heap.size)(hX:∀x,w2.heap.size≤x→¬X x):FA n0 X (w2.alloc (.cells #[u] 31)) (.slice (some ⟨w2.heap.size,0,none⟩) 1 1) [t]:=by
 have hb:=Below.pureAlloc w2 (.cells #[u] 31);have hh:(w2.alloc (.cells #[u] 31)).heap[w2.heap.size]? =some (.cells #[u] 31 (0,0)):=Aw.new w2 #[u] 31;refine⟨[u],.inr ⟨w2.heap.size,#[u],rfl,⟨hn,hX _ (Nat.le_refl _),by simp⟩,hh,by simp,by simp[maxLen],by simp,fun _ _=>False,fun _ _ h=>h.elim,fun _ _ _ h=>h.elim,fun k x hk=>?_⟩,rfl,fun k v g hk hg=>?_⟩
 ·cases k with
  |zero=>simp at hk;subst hk;exact⟨u,rfl,rfl,h1⟩
  |succ k=>simp at hk
 ·cases k with
  |zero=>simp at hk hg;subst hk;subst hg;exact hu.pure hb
  |succ k=>simp at hk
theorem FA.push{n0:Nat}{X:Bk}{wz w':World}{qv v' u:Value}{us:List Value}{g:List (List Int)}{gs:List (List (List Int))}(h2:us.length=gs.length)(h3:∀(k:Nat)(u:Value)(g:List (List Int)),us[k]? =some u→gs[k]? =some g→No n0 wz u g)(hq:∀x,qv.ownBlock=some x→¬RQ n0 wz x)(hu:No n0 wz u g)
  (aB:A4 31 PA (fun b=>(n0≤b∧¬X b)∧b<w'.heap.size) w' v' (us++[u]))(ho:Ar (fun b=>qv.ownBlock=some b) wz w'):FA n0 X w' v' (gs++[g]):=by
 refine⟨us++[u],(A3 DV).mono (fun x hx=>⟨hx.1.1,hx.1.2,hx.2⟩) aB,by rw[List.length_append,List.length_append,h2];rfl,fun k v x hk hx=>?_⟩;by_cases aH:k<us.length
 ·rw[List.getElem?_append_left aH] at hk;rw[List.getElem?_append_left (by omega)] at hx;exact(h3 k v x hk hx).only ho hq
 ·have aN:k=us.length:=by
   have:=(List.getElem?_eq_some_iff.1 hk).1;rw[List.length_append,List.length_singleton] at this;omega
  subst aN;rw[List.getElem?_append_right (Nat.le_refl _),Nat.sub_self] at hk;rw[List.getElem?_append_right (by omega),show us.length-gs.length=0 from by omega] at hx;simp at hk hx;subst hk;subst hx;exact hu.only ho hq
theorem A17{r c NB j:Nat}{m t:List (List Int)}{acc:List DW}(aD:A0g r c m t NB)(iJ:Jv r c t j acc)(fF:acc.length≤j):∀g,CY (A6 m) (A8 m) r c g→∃n,F9 r c acc (BI r c g)=some n∧Ud r c t g n∧n≤NB:=fun g hg=>by
 obtain⟨e,he,rfl⟩:=iJ.found fF aD.sumt hg;obtain⟨i,hi,rfl⟩:=List.getElem_of_mem he;refine⟨_,A3O aD.hc1 (JL aD.ht iJ.path) iJ.nodup he,(iJ.least fF he).far,?_⟩;have h1:=iJ.len i _ (List.getElem?_eq_getElem hi);have h2:=aD.boundI _ _ iJ;omega
def A6j:Value→Nat
 |.slice _ n _=>n
 |_=>0
theorem Co.not_img{n0:Nat}{w:World}{v:Value}{l:List Sw}(h:Co n0 w v l):∀x,v.ownBlock=some x→¬RQ n0 w x:=by
 intro x hx;obtain⟨-,⟨rfl,-⟩|⟨g,cap,cur,rfl,hB,hh,-⟩⟩:=id h
 ·simp[Value.ownBlock] at hx
 ·simp[Value.ownBlock] at hx;subst hx;exact Go.Proofs.YthmocomfjgmjoaaGreatDoor.not_img hB hh (by decide) (by decide)
theorem A3N{r c NB:Nat}{m t g:List (List Int)}{acc:List DW}{p:List Sw}{j:Nat}(aD:A0g r c m t NB)(iJ:Jv r c t j acc)(fF:acc.length≤j)(h:∀q,Md r c t g q→Md r c t m (p++q))(hf:Ud r c t g 0):JU r c m t p:=by
 have e:=A4p hf;subst e;have hd:=h [] .done;rw[List.append_nil] at hd;have h1:=aD.hr4;have h2:=aD.hc4;refine Md.least (by omega) (by omega) aD.hm aD.ht (fun x hx ⟨q,hq⟩=>?_) hd;have hs:=(CK.rev hq hx).sums aD.sumt;obtain⟨k,-,hk,-⟩:=A17 aD iJ fF x hs;exact⟨k,hk⟩
theorem A45(v v2:Value)(m t:List (List Int))(r c:Nat)(w:World)(hv:Ak w v m)(aW:Ak w v2 t)(hs:Ac r c m)(hs2:Ac r c t)(hr1:1≤r)(hr4:r≤4)(hc1:1≤c)(hc4:c≤4)(e1:A6 m=A6 t)(e2:A8 m=A8 t):
  Calls Tryz.prog 96 #[v,v2] w fun e w'=>∃v' W,e=.returned (.tuple #[v',.bool true])∧JU r c m t W∧W.length≤33554432∧Co w.heap.size w' v' W∧Below w.heap.size w w':=by
 have hr5:r≤5:=by omega
 have hc5:c≤5:=by omega
 obtain⟨NB,aD⟩:=Wb hs hs2 hr1 hr4 hc1 hc4 e1 e2;have aS:=Z aD;have jz:=aD.nb;have E1:=Z e1;have E2:=Z e2;obtain⟨b,off,cp,rfl,hb,hm⟩:=hv.rowsT hs.trectM hr1 hc1;obtain⟨b0,o0,c0,cF,-⟩:=hm 0 (by omega);obtain⟨b',off2,cp2,rfl,au,-⟩:=aW.rowsT hs2.trectM hr1 hc1;have Hv:=Z hv;have aj:=Z aW;have HIt:=Z (No.of_grid aW (Nat.le_refl _));have HIm:=Z (No.of_grid hv (Nat.le_refl _));have hkt:=JN hs2 hr5 hc5;obtain⟨KT,hKT⟩:∃KT,KT=BI r c t:=⟨_,rfl⟩;have HKT:=Z hKT;rw[←hKT] at hkt;have h4r:¬(4:Int)<(r:Int):=by omega
 have h4c:¬(4:Int)<(c:Int):=by omega
 have km:=Z cF;clear aD e1 e2 hv aW hm hKT cF;have rV:=@run_makeMap Tryz.prog;go_enter Tryz.func96,Tryz.ntmps96;go_wp2_with (fail);refine(A0u _ _ m t r c _ Hv.o aj.o hs hs2 hr1 hr5 hc1 hc5 E1.o E2.o).mono ?_;rintro e w1 ⟨rfl,b1⟩;have cF:=km.o w1 b1;rw[Nat.add_zero] at cF;have vq:=Z (Below.pureAlloc w1 (.map #[] 0));go_wp2_with (fail);refine(Jg _ t r c _ ((aj.o.keep b1).keep vq.o) hs2 hr1 hr5 hc1 hc5).mono ?_;rintro e w' ⟨rfl,rfl⟩;rw[←HKT.o];obtain⟨w2,hrun2,hf2,fR⟩:=(HQ.made w1).store (v:=0) hkt (by omega) (by omega);have Hf2:=Z hf2;have cu:=Z fR;rw[show((0:Nat):Int)=0 from rfl] at hrun2;have rv:=b1.trans_pure vq.o (Nat.le_refl _);have cX:=b1.size;have bj:=Z (show Below w.heap.size w w2 from rv.trans (cu.o.below (Nat.le_trans cX (by simp)) fun x hx=>by have hx:x=w1.heap.size:=hx;omega));have hs2':w1.heap.size<w2.heap.size:=Nat.lt_of_lt_of_le (by simp) cu.o.size;have HI2:=Z (show No w.heap.size w2 (.slice (some ⟨b',off2,none⟩) r cp2) t from(HIt.o.pure rv).only cu.o fun x hx=>by
  have hx:x=w1.heap.size:=hx;subst hx;exact PS cX (HQ.made w1))
 have kA:=Z (show QSt w (w2.alloc (.cells #[.slice (some ⟨b',off2,none⟩) r cp2] 31)) (.slice (some ⟨w2.heap.size,0,none⟩) 1 1) w1.heap.size 1 [t] (F9 r c [(t,[])]) from
  ⟨FA.start HI2.o rfl bj.o.size (fun x hx e=>by have e:x=w1.heap.size:=e;omega),by
    have e:F9 r c [(t,([]:List Sw))]=A0n (fun _=>none) KT 0:=by
     have h:=X3 (r:=r) (c:=c) hc1 (acc:=[]) (e:=(t,[])) (by simp) hs2 rfl;rw[List.nil_append] at h;rw[h,HKT.o];rfl
    rw[e];exact Hf2.o.pure (Below.pureAlloc _ _),bj.o.trans_pure (Below.pureAlloc _ _) (Nat.le_refl _),cX⟩)
 have mS:=Z (SU r c t);obtain⟨bm,oe⟩:∃bm,bm=w1.heap.size:=⟨_,rfl⟩;rw[←oe] at kA;have Hbm:=Z oe;have xK:w.heap.size≤bm:=by omega
 have hd4r:decide ((4:Int)<(r:Int))=false:=by rw[decide_eq_false_iff_not];omega
 have hd4c:decide ((4:Int)<(c:Int))=false:=by rw[decide_eq_false_iff_not];omega
 clear cF hf2 fR rv hs2' oe;go_wp2;rw[←Hbm.o];go_loopw [7,8,10,11,12,13,14] (fun qv iv _ _ _ _ _ wr=>∃(j:Nat)(acc:List DW),j≤NB∧iv=.int .i64 j∧Hid (Jv r c t j acc)∧Hid (QSt w wr qv bm acc.length (acc.map Prod.fst) (F9 r c acc))) (fun _ iv _ _ _ _ _ _=>NB+1-(intOf iv).toNat)
 case atStart=>exact⟨0,[(t,[])],Nat.zero_le _,rfl,mS,kA⟩
 case round=>
  clear mS kA;obtain⟨j,acc,hj,rfl,du,aJ⟩:=hrel;obtain⟨wo,rfl⟩:∃wo:World,wo=wr:=⟨_,rfl⟩;obtain⟨qa,L,qc,rfl,hL⟩:=aJ.o.shape;rw[List.length_map] at hL;have hbmo:=aJ.o.map.lt;have sH:L≤NB:=by rw[hL];exact aS.o.boundI _ _ du.o
  have HL:=Z hL;clear hL;by_cases aH:j<L
  ·obtain⟨e0,he0⟩:∃e0,acc[j]? =some e0:=⟨_,List.getElem?_eq_getElem (by rw[←HL.o];exact aH)⟩;have ik:=JL hs2 du.o.path e0 (List.mem_of_getElem? he0);have ff:(acc.map Prod.fst)[j]? =some e0.1:=by rw[List.getElem?_map,he0];rfl
   obtain⟨qb,qc',u,he,hqb,nY,hiu⟩:=aJ.o.q.at ff;obtain⟨rfl,-⟩:qa=some ⟨qb,0,none⟩∧qc=qc':=by
    simp only[Value.slice.injEq] at he;exact⟨he.1,he.2.2⟩
   have lu:=Z hiu;obtain⟨ua,uc,rfl,-⟩:=hiu.grid;have dI:=Z (du.o.mid he0);have yO:j+1≤NB:=by omega
   have d8:=Z (show ∀s∈AX r c e0.1,CB r c e0.1 s from fun s hs=>CZ.1 hs);have jS:=HH hr4 hc4 e0.1;have jT:=Z (Gi hr5 hc5 e0.1);obtain⟨ss,gS⟩:∃ss,ss=AX r c e0.1:=⟨_,rfl⟩;rw[←gS] at d8 jS jT;have lU:=Z gS;clear he he0 hiu ff gS;go_wp2_with (fail);refine(KN _ e0.1 r c _ lu.o.grid ik hr1 hr5 hc1 hc5).mono ?_;rintro e wS ⟨vs,rfl,oS,bS⟩;rw[←lU.o] at oS;have pU:=Z (show 0<ss.length→∃g cap,vs=.slice (some ⟨g,0,none⟩) ss.length cap∧wo.heap.size≤g∧C0 wS g ss from fun h=>oS.blk h);obtain⟨sa,sc,rfl⟩:=oS.shape;obtain⟨N,hN⟩:∃N,N=ss.length:=⟨_,rfl⟩;rw[←hN] at jS pU⊢;have HN:=Z hN;have mT:=Z (aJ.o.pure bS);have hqbS:qb<wS.heap.size:=Nat.lt_of_lt_of_le hqb bS.size;clear hN oS;go_wp2;clear nY;go_loopw [7,10,11,12,13,14,55] (fun qv _ _ _ _ _ i wr=>∃(k:Nat)(acc:List DW),k≤N∧i=.int .i64 k∧Hid (Li r c t j e0 (ss.take k) acc)∧Hid (QSt w wr qv bm acc.length (acc.map Prod.fst) (F9 r c acc))∧Hid (∀g,wo.heap.size≤g→C0 wS g ss→C0 wr g ss)) (fun _ _ _ _ _ _ i _=>N-(intOf i).toNat)
   case atStart=>exact⟨0,acc,Nat.zero_le _,rfl,dI,mT,Z fun _ _ h=>h⟩
   case round=>
    clear dI mT aJ du HL aH lu;obtain⟨k,acc,hk,rfl,dI,aJ,Hkeep⟩:=hrel;obtain⟨wi,rfl⟩:∃wi:World,wi=wr:=⟨_,rfl⟩;obtain⟨qa,L,qc,rfl,hL⟩:=aJ.o.shape;rw[List.length_map] at hL;have sH:L≤NB:=by rw[hL];exact aS.o.boundM _ _ _ _ dI.o
    have HL:=Z hL;clear hL;by_cases hltk:k<N
    ·obtain⟨sp,aK⟩:∃sp,ss[k]? =some sp:=⟨_,List.getElem?_eq_getElem (by rw[←HN.o];exact hltk)⟩;have gD:=d8.o sp (List.mem_of_getElem? aK);obtain⟨g,cap,he,kd,cB⟩:=pU.o (by omega);obtain⟨rfl,-⟩:sa=some ⟨g,0,none⟩∧sc=cap:=by
      simp only[Value.slice.injEq] at he;exact⟨he.1,he.2.2⟩
     have cB:=Hkeep.o g kd cB;have ai:=cB.lt;have c0:=cB.cells aK (j:=0) (u:=.int .i64 sp.1) rfl;have c1:=cB.cells aK (j:=1) (u:=.int .i64 sp.2.1) rfl;have c2:=cB.cells aK (j:=2) (u:=.int .i64 sp.2.2.1) rfl;have c3:=cB.cells aK (j:=3) (u:=.int .i64 sp.2.2.2) rfl;rw[Nat.add_zero] at c0;have rx:=Z cB;have ff:(acc.map Prod.fst)[j]? =some e0.1:=by rw[List.getElem?_map,dI.o.at0];rfl
     have hjL:j<L:=by
      have:=(List.getElem?_eq_some_iff.1 ff).1;rw[List.length_map] at this;rw[HL.o];exact this
     obtain⟨qb,qc',u,dh,hqb,nY,hiu⟩:=aJ.o.q.at ff;obtain⟨rfl,-⟩:qa=some ⟨qb,0,none⟩∧qc=qc':=by
      simp only[Value.slice.injEq] at dh;exact⟨dh.1,dh.2.2⟩
     have lu:=Z hiu;obtain⟨ua,uc,rfl,-⟩:=hiu.grid;have HU:=Z (show ∀w',Below wi.heap.size wi w'→Ak w' _ e0.1 from fun w' hb=>(lu.o.pure hb).grid);have cN:=Z (Below.pureAlloc wi (.cells (FT sp).toArray 65));have im:=Ci ik gD;have fk:=JN im hr5 hc5;have aN:=JN ik hr5 hc5;obtain⟨KX,hKX⟩:∃KX,KX=BI r c (AQ e0.1 sp):=⟨_,rfl⟩;obtain⟨K0,hK0⟩:∃K0,K0=BI r c e0.1:=⟨_,rfl⟩;rw[←hKX] at fk;rw[←hK0] at aN;have sd:=Z hKX;have HK0:=Z hK0;have d7:=Z gD;have aq:=Z aK;clear he dh hiu cB ff gD aK hKX hK0;go_wp2;go_region_with (go_at_call 37;refine(Jj _ e0.1 r c sp _ (HU.o _ (by exact⟨cN.o.os,cN.o.tape,cN.o.output,cN.o.size,cN.o.block⟩)) ik hr1 hr5 hc1 hc5 d7.o).mono ?_;rintro e u1 ⟨x1,rfl,q1,d1⟩)
     all_goals
      have hd:Below wi.heap.size wi u1:=cN.o.trans_pure (by exact⟨d1.os,d1.tape,d1.output,d1.size,d1.block⟩) (Nat.le_refl _);have dF:=Z (aJ.o.pure hd);have HX:=Z (show No w.heap.size u1 x1 (AQ e0.1 sp) from No.of_own q1);obtain⟨xa,xn,xc,rfl⟩:=q1.shape;have io:=Z (show ∀g,wo.heap.size≤g→C0 wS g ss→C0 u1 g ss from fun g h1 h2=>(Hkeep.o g h1 h2).pure hd);have HU1:=Z (lu.o.pure hd);have cC:=JL hs2 dI.o.path;have lm:=Z cC;obtain⟨sn,hsn⟩:∃sn,sn=acc.any (fun x=>decide (x.1=AQ e0.1 sp)):=⟨_,rfl⟩;have sU:=Z hsn;have vt:=dF.o.map.look_ok fk;rw[show(F9 r c acc KX).isSome=sn from by rw[sd.o,hsn];exact A1k hc1 cC im] at vt;obtain⟨FV,hFV⟩:∃FV,FV=(F9 r c acc KX).getD 0:=⟨_,rfl⟩;rw[←hFV] at vt;have bu:=Z (show Li r c t j e0 (ss.take (k+1)) (Ql e0 acc sp) from by
       rw[List.take_add_one,aq.o];refine dI.o.step d7.o fun s1 cX=>?_;obtain⟨i,hi,e⟩:=List.getElem_of_mem cX;rw[List.getElem_take] at e;rw[List.length_take] at hi;obtain⟨fU,mU⟩:=List.getElem?_eq_some_iff.1 aq.o;have:=List.pairwise_iff_getElem.1 jT.o i k (by omega) fU (by omega);rw[e,mU] at this;exact this)
      have lV:=hd.size;have hcu1:=(hd.cell (p:=⟨qb,j,none⟩) hqb).trans nY;have hqb1:qb<u1.heap.size:=by omega
      clear hsn hFV cC q1 d1 hd c0 c1 c2 c3;go_wp2_with (fail);refine(Jg _ (AQ e0.1 sp) r c _ HX.o.grid im hr1 hr5 hc1 hc5).mono ?_;rintro e w' ⟨rfl,rfl⟩;rw[←sd.o];cases sn
      ·have he0m:e0∈acc:=List.mem_of_getElem? dI.o.at0;have tJ:F9 r c acc K0=some e0.2.length:=by rw[HK0.o];exact A3O hc1 lm.o dI.o.nodup he0m
       have hP0:=dI.o.len j e0 dI.o.at0;obtain⟨P0,hP0e⟩:∃P0,P0=e0.2.length:=⟨_,rfl⟩;rw[←hP0e] at tJ hP0;have HP0:=Z hP0e;have HFd:=Z (show HQ u1.drew bm acc.length (F9 r c acc) from dF.o.map.same rfl);have hlk0:=HFd.o.look aN;rw[tJ,Option.getD_some] at hlk0;obtain⟨w4,hst4,hf4,fm⟩:=HFd.o.store (v:=P0+1) fk (by omega) (by rw[←HL.o];omega);rw[show((P0+1:Nat):Int)=(P0:Int)+1 from rfl] at hst4;have hwk:IntKind.i64.wrap ((P0:Int)+1)=(P0:Int)+1:=by rw[IntKind.wrap_i64];omega
       have Hf4:=Z hf4;have pg:=Z (show Ar (fun x=>x=bm) u1 w4 from⟨fm.os,fm.tape,fm.output,fm.size,fm.block⟩);have HXd:=Z (show Ak u1.drew (.slice xa xn xc) (AQ e0.1 sp) from HX.o.grid);have HUd:=Z (show Ak u1.drew (.slice ua e0.1.length uc) e0.1 from HU1.o.grid);have hnm:∀x,x=bm→¬RQ w.heap.size u1 x:=fun x e=>by subst e;exact PS xK dF.o.map
       have HQ4:=Z (dF.o.q.only pg.o (fun _ h=>h) hnm);have ul:=Z (HX.o.only pg.o hnm);have nO:=Z (show ∀g,wo.heap.size≤g→C0 wS g ss→C0 w4 g ss from fun g h1 h2=>(io.o g h1 h2).only pg.o (fun e=>by have e:g=bm:=e;omega));have xe:=Z (show Below w.heap.size w w4 from dF.o.bel.trans (pg.o.below dF.o.bel.size fun x e=>by have e:x=bm:=e;omega));have cJ:=Z (show Li r c t j e0 (ss.take (k+1)) (acc++[(AQ e0.1 sp,e0.2++[sp])]) from by
        have h:=bu.o;unfold Ql at h;rwa[if_neg (by rw[←sU.o];simp)] at h)
       have vu:=Z (show F9 r c (acc++[(AQ e0.1 sp,e0.2++[sp])])=A0n (F9 r c acc) KX (P0+1) from by
        rw[X3 (e:=(AQ e0.1 sp,e0.2++[sp])) hc1 lm.o im sU.o.symm,sd.o,List.length_append,←HP0.o];rfl)
       have hwi:wi.heap.size≤u1.heap.size:=lV;have kq:L=(acc.map Prod.fst).length:=by rw[List.length_map];exact HL.o
       have nf:=Z kq;clear tJ hP0e hf4 fm kq lV;go_wp2;go_region_with (first|(go_at_call 161;first|(with_reducible refine(Jg _ (AQ e0.1 sp) r c _ HXd.o im hr1 hr5 hc1 hc5).mono ?_;rintro e w' ⟨rfl,rfl⟩;rw[←sd.o])|(with_reducible refine(Jg _ e0.1 r c _ HUd.o ik hr1 hr5 hc1 hc5).mono ?_;rintro e w' ⟨rfl,rfl⟩;rw[←HK0.o])))
       all_goals
        obtain⟨us,fE,fo,iH⟩:=HQ4.o.q;have fT:=Z fE;have oF:us.length<1099511627776:=by rw[fo,←nf.o];omega
        have hbm4:=Hf4.o.lt;clear fE;go_wp2_with (first|(at_builtin;(refine Gw (w0:=w4) rfl _ _ 77 rfl DV 31 Tryz.underlying77 UT rfl (by decide) (fun x=>w.heap.size≤x∧¬x=bm∧x<w4.heap.size) (fun _=>False) (fun x=>w.heap.size≤x∧¬x=bm) _ (.slice xa xn xc) us (.slice xa xn xc) rfl rfl (by exact fT.o) (by exact⟨rfl,rfl⟩) (fun _ _ h=>h) (fun _ h=>h.2.2) (fun _ h=>h.elim) (fun _ h=>⟨h.1,h.2.1⟩) (fun _ h=>h.elim) (fun x hx=>⟨by omega,by omega⟩) oF ?_);intro v7 w7 o7 ho7)|fail);have aB:=HQ4.o.own_not;have hQ7:FA w.heap.size (fun x=>x=bm) w7 v7 (acc.map Prod.fst++[AQ e0.1 sp]):=FA.push fo iH (fun x hx=>(aB x hx).2.2.2.2) ul.o o7 ho7;have hF7:HQ w7 bm (acc.length+1) (A0n (F9 r c acc) KX (P0+1)):=Hf4.o.same (ho7.block bm hbm4 fun e=>(aB bm e).2.1 rfl);have hB7:Below w.heap.size w w7:=xe.o.trans (ho7.below xe.o.size fun x hx=>(aB x hx).1);have kN:=Z (show QSt w w7 v7 bm (acc++[(AQ e0.1 sp,e0.2++[sp])]).length ((acc++[(AQ e0.1 sp,e0.2++[sp])]).map Prod.fst) (F9 r c (acc++[(AQ e0.1 sp,e0.2++[sp])])) from by
         rw[List.length_append,List.map_append,vu.o];exact⟨hQ7,hF7,hB7,xK⟩)
        have ip:=Z (show ∀g,wo.heap.size≤g→C0 wS g ss→C0 w7 g ss from fun g h1 h2=>(nO.o g h1 h2).only ho7 (fun e=>by
         obtain⟨arr,ha⟩:=(aB g e).2.2.2.1;exact(nO.o g h1 h2).not_type ha (by decide) rfl))
        exact⟨⟨k+1,_,by omega,by go_num,cJ,kN,ip⟩,by simp[intOf];omega⟩
      ·have Hp:=Z (show Li r c t j e0 (ss.take (k+1)) acc from by
        have h:=bu.o;unfold Ql at h;rwa[if_pos sU.o.symm] at h)
       clear nY hcu1;go_wp2;go_roundw
       case rel=>exact⟨k+1,acc,by omega,by go_num,Hp,dF,io⟩
       case measure=>simp[intOf];omega
    ·obtain rfl:k=N:=by omega
     have m4:=Z (show Jv r c t (j+1) acc from by
      have h:=dI.o;rw[List.take_of_length_le (by rw[←HN.o];exact Nat.le_refl _),lU.o] at h;exact h.last)
     go_wp2;go_roundw
     case rel=>exact⟨j+1,acc,yO,by go_num,m4,aJ⟩
     case measure=>simp[intOf];omega
  ·have fF:acc.length≤j:=by rw[←HL.o];omega
   have aY:=Z (A17 aS.o du.o fF);have vv:=Z (fun g p=>A3N (g:=g) (p:=p) aS.o du.o fF);have pH:=Z aJ.o.map;have HGm:=Z (Hv.o.keep aJ.o.bel);have hbmo:=aJ.o.map.lt;have bbw:=aJ.o.bel;obtain⟨F,hF⟩:∃F,F=F9 r c acc:=⟨_,rfl⟩;obtain⟨NA,hNA⟩:∃NA,NA=acc.length:=⟨_,rfl⟩;rw[←hF] at aY pH;rw[←hNA] at pH;obtain⟨NM,hNM,hfm,hnm⟩:=aY.o m aS.o.sums;have xd:=Z hfm;have vz:=Z (No.of_grid HGm.o (Nat.le_refl _));clear hF hNA du aJ HL hfm fF hNM;go_wp2;go_loopw [15,16,18,19,20] (fun ov av _ _ _ wr=>∃(g:List (List Int))(p:List Sw)(n:Nat),Hid (CY (A6 m) (A8 m) r c g)∧Hid (No wo.heap.size wr av g)∧Hid (Co wo.heap.size wr ov p)∧Hid (∀q,Md r c t g q→Md r c t m (p++q))∧Hid (Ud r c t g n)∧p.length+n=NM∧Hid (Below wo.heap.size wo wr)) (fun ov _ _ _ _ _=>NM-A6j ov)
   case atStart=>exact⟨m,[],NM,Z aS.o.sums,vz,Z (Co.nil _ _),Z fun q h=>h,xd,by simp,Z (Below.refl _ _)⟩
   case round=>
    clear vz xd;obtain⟨g,p,n,Hg,Hi,Hop,Hdn,Hfar,hpn,Hb⟩:=hrel;obtain⟨wd,rfl⟩:∃wd:World,wd=wr:=⟨_,rfl⟩;have ja:=Hg.o.1;have hkg:=JN ja hr5 hc5;obtain⟨KG,hKG⟩:∃KG,KG=BI r c g:=⟨_,rfl⟩;rw[←hKG] at hkg;have HKG:=Z hKG;have wA:=Z (pH.o.pure Hb.o);have vt:=wA.o.look hkg;obtain⟨n',eA,fZ,hn3⟩:=aY.o g Hg.o;obtain rfl:n'=n:=fZ.eq Hfar.o;rw[←hKG] at eA;have pM:=Z eA;rw[eA,Option.getD_some] at vt;obtain⟨ga,gc,rfl,-⟩:=Hi.o.grid;obtain⟨oa,oc,rfl⟩:=Hop.o.shape;have hple:p.length≤NM:=by omega
    clear hKG eA fZ;by_cases dY:n'=0
    ·subst dY;have iq:=Z (vv.o g p Hdn.o Hfar.o);have jV:=bbw.trans_pure Hb.o (Nat.le_refl _);have Hop2:=Z (Hop.o.low bbw.size);go_wp2_with (fail);refine(Jg _ g r c _ Hi.o.grid ja hr1 hr5 hc1 hc5).mono ?_;rintro e w' ⟨rfl,rfl⟩;rw[←HKG.o];go_wp2;refine bodyPost_ret (v:=.tuple #[.slice oa p.length oc,.bool true]) (by simp[results,Tryz.results96,go_sem]) rfl ?_;exact⟨_,p,rfl,iq.o,by omega,Hop2.o,jV⟩
    have hnp:decide ((0:Int)<(n':Int))=true:=by rw[decide_eq_true_eq];omega
    have jS:=HH hr4 hc4 g;have d8:=Z (show ∀s∈AX r c g,CB r c g s from fun s hs=>CZ.1 hs);have nP:=Z (show ∀s,CB r c g s→s∈AX r c g from fun s hs=>CZ.2 hs);have jT:=Z (Gi hr5 hc5 g);obtain⟨ss,gS⟩:∃ss,ss=AX r c g:=⟨_,rfl⟩;rw[←gS] at d8 nP jS jT;have lU:=Z gS;clear gS;go_wp2_with (fail);refine(Jg _ g r c _ Hi.o.grid ja hr1 hr5 hc1 hc5).mono ?_;rintro e w' ⟨rfl,rfl⟩;rw[←HKG.o];go_wp2_with (fail);refine(KN _ g r c _ Hi.o.grid ja hr1 hr5 hc1 hc5).mono ?_;rintro e wS ⟨vs,rfl,oS,bS⟩;rw[←lU.o] at oS;have pU:=Z (show 0<ss.length→∃g cap,vs=.slice (some ⟨g,0,none⟩) ss.length cap∧wd.heap.size≤g∧C0 wS g ss from fun h=>oS.blk h);obtain⟨sa,sc,rfl⟩:=oS.shape;obtain⟨N,hN⟩:∃N,N=ss.length:=⟨_,rfl⟩;rw[←hN] at jS pU⊢;have HN:=Z hN;have HbS:=Z (Hb.o.trans_pure bS (Nat.le_refl _));have HiS:=Z (Hi.o.pure bS);have HopS:=Z (Hop.o.keep bS);clear hN oS vt;go_wp2;go_loopw [15,16,18,19,20,102] (fun ov av _ _ _ i wr=>∃k:Nat,k≤N∧i=.int .i64 k∧ov=.slice oa p.length oc∧av=.slice ga g.length gc∧Hid (∀(i:Nat)(s:Sw),i<k→ss[i]? =some s→∀z,Ud r c t (AQ g s) z→n'≤z)∧Hid (Below wS.heap.size wS wr)) (fun _ _ _ _ _ i _=>N-(intOf i).toNat)
    case atStart=>exact⟨0,Nat.zero_le _,rfl,rfl,rfl,Z fun i s h=>absurd h (Nat.not_lt_zero _),Z (Below.refl _ _)⟩
    case round=>
     obtain⟨k,hk,rfl,rfl,rfl,fh,du⟩:=hrel;obtain⟨wi,rfl⟩:∃wi:World,wi=wr:=⟨_,rfl⟩;by_cases hltk:k<N
     ·obtain⟨sp,aK⟩:∃sp,ss[k]? =some sp:=⟨_,List.getElem?_eq_getElem (by rw[←HN.o];exact hltk)⟩;have gD:=d8.o sp (List.mem_of_getElem? aK);obtain⟨gb,cap,he,kd,cB⟩:=pU.o (by omega);obtain⟨rfl,-⟩:sa=some ⟨gb,0,none⟩∧sc=cap:=by
       simp only[Value.slice.injEq] at he;exact⟨he.1,he.2.2⟩
      have cB:=cB.pure du.o;have ai:=cB.lt;have c0:=cB.cells aK (j:=0) (u:=.int .i64 sp.1) rfl;have c1:=cB.cells aK (j:=1) (u:=.int .i64 sp.2.1) rfl;have c2:=cB.cells aK (j:=2) (u:=.int .i64 sp.2.2.1) rfl;have c3:=cB.cells aK (j:=3) (u:=.int .i64 sp.2.2.2) rfl;rw[Nat.add_zero] at c0;have Hiw:=Z (HiS.o.pure du.o);have cN:=Z (Below.pureAlloc wi (.cells (FT sp).toArray 65));have il:=Z (Aw.new wi (FT sp).toArray 65);have im:=Ci ja gD;have fk:=JN im hr5 hc5;obtain⟨KX,hKX⟩:∃KX,KX=BI r c (AQ g sp):=⟨_,rfl⟩;rw[←hKX] at fk;have sd:=Z hKX;have d7:=Z gD;have aq:=Z aK;have kf:=DI Hg.o gD;obtain⟨z,bZ,bT,eB⟩:=aY.o _ kf;rw[←hKX] at bZ;have ry:=Z bZ;have n9:=Z bT;have pd:=Z kf;have HgN:=Z ((Hiw.o.pure cN.o).grid);clear he cB gD aK hKX kf bZ bT;go_wp2_with (fail);refine(Jj _ g r c sp _ HgN.o ja hr1 hr5 hc1 hc5 d7.o).mono ?_;rintro e u1 ⟨x1,rfl,q1,d1⟩;have hd:Below wi.heap.size wi u1:=cN.o.trans_pure d1 (Nat.le_refl _);have HX:=Z (show No wo.heap.size u1 x1 (AQ g sp) from No.of_own q1);obtain⟨xa,xn,xc,rfl⟩:=q1.shape;have lu:=Z (Hiw.o.pure hd);have Hbu:=Z (show Below wS.heap.size wS u1 from du.o.trans_pure hd (Nat.le_refl _));have nZ:=Z (show Below wo.heap.size wo u1 from HbS.o.trans_pure Hbu.o (Nat.le_refl _));have Hfu:=Z (pH.o.pure nZ.o);have eX:∀n,(Instr.lookup 145 (.map (some bm)) (.int .i64 (KX:Int)) false).run Tryz.prog (u1.drewN n)=.ok (.int .i64 (z:Int)) (u1.drewN n):=fun n=>by
       have h:=(Hfu.o.same (w':=u1.drewN n) rfl).look fk;rwa[ry.o,Option.getD_some] at h
      have gB:∀n,(Instr.lookup 145 (.map (some bm)) (.int .i64 (KG:Int)) false).run Tryz.prog (u1.drewN n)=.ok (.int .i64 (n':Int)) (u1.drewN n):=fun n=>by
       have h:=(Hfu.o.same (w':=u1.drewN n) rfl).look hkg;rwa[pM.o,Option.getD_some] at h
      have fT:=Z (show ∀n,Calls Tryz.prog 161 #[.slice xa xn xc] (u1.drewN n) fun e w'=>e=.returned (.int .i64 (KX:Int))∧w'=u1.drewN n from fun n=>(Jg _ (AQ g sp) r c (u1.drewN n) (HX.o.grid.keep (below_drewN (Below.refl _ _) n)) im hr1 hr5 hc1 hc5).mono fun e w' ⟨he,hw⟩=>⟨by rw[he,sd.o],hw.symm⟩);have iU:=Z (show ∀n,Calls Tryz.prog 161 #[.slice ga g.length gc] (u1.drewN n) fun e w'=>e=.returned (.int .i64 (KG:Int))∧w'=u1.drewN n from fun n=>(Jg _ g r c (u1.drewN n) (lu.o.grid.keep (below_drewN (Below.refl _ _) n)) ja hr1 hr5 hc1 hc5).mono fun e w' ⟨he,hw⟩=>⟨by rw[he,HKG.o],hw.symm⟩);have kC:=Z (il.o.keep d1);have Hop1:=Z (HopS.o.keep Hbu.o);clear q1 hd c0 c1 c2 c3 d1;go_wp2;go_quiet ((first|(go_at_call 161;with_reducible exact Calls.quiet_of_same (fT.o _))|(go_at_call 161;with_reducible exact Calls.quiet_of_same (iU.o _))));obtain⟨wz,hwz⟩:∃wz,wz=u1.drewN nq:=⟨_,rfl⟩;have jF:Below u1.heap.size u1 wz:=by rw[hwz];exact below_drewN (Below.refl _ _) nq
      rw[←hwz];have k0:wz.cell? ⟨wi.heap.size,0,none⟩=some (.int .i64 sp.1):=(kC.o.keep jF).cell 0;have k1:wz.cell? ⟨wi.heap.size,1,none⟩=some (.int .i64 sp.2.1):=(kC.o.keep jF).cell 1;have k2:wz.cell? ⟨wi.heap.size,2,none⟩=some (.int .i64 sp.2.2.1):=(kC.o.keep jF).cell 2;have k3:wz.cell? ⟨wi.heap.size,3,none⟩=some (.int .i64 sp.2.2.2):=(kC.o.keep jF).cell 3;have xf:=Z jF;have Hz3:=Z (show ∀(i:Nat)(s:Sw),i<k+1→ss[i]? =some s→n'≤z→∀z',Ud r c t (AQ g s) z'→n'≤z' from fun i s hi hs hz z' jy=>by
       by_cases h:i<k
       ·exact fh.o i s h hs z' jy
       ·obtain rfl:i=k:=by omega
        rw[aq.o] at hs;obtain rfl:=Option.some.inj hs;rw[←n9.o.eq jy];exact hz)
      clear hwz jF eX gB;by_cases hzn:z<n'
      ·have tS:decide ((z:Int)<(n':Int))=true:=by rw[decide_eq_true_eq];omega
       have dZ:=A3P ja Hfar.o d7.o n9.o;obtain rfl:n'=z+1:=by omega
       have gQ:=Z (Aw.new wz (FT sp).toArray 65);have gZ:=Z (Below.pureAlloc wz (.cells (FT sp).toArray 65));have rz:=Z ((Hop1.o.keep xf.o).keep gZ.o);have js:=Z (show Below wo.heap.size wo (wz.alloc (.cells (FT sp).toArray 65)) from nZ.o.trans_pure (xf.o.trans_pure gZ.o (Nat.le_refl _)) (Nat.le_refl _));have aP:p.length<1073741824:=by omega
       have jX:=js.o.size;have Hdn2:=Z (show ∀q,Md r c t (AQ g sp) q→Md r c t m (p++[sp]++q) from fun q hq=>by
        rw[List.append_assoc];refine Hdn.o _ (.step Hfar.o d7.o n9.o (fun s' dj wB k' kS=>?_) hq);obtain⟨i,hi,e⟩:=List.getElem_of_mem (nP.o s' dj);obtain⟨fU,mU⟩:=List.getElem?_eq_some_iff.1 aq.o;have x9:i<k:=by
         rcases Nat.lt_trichotomy i k with h|h|h
         ·exact h
         ·subst h;rw[mU] at e;subst e;omega
         ·have:=List.pairwise_iff_getElem.1 jT.o k i fU hi h;rw[e,mU] at this;omega
        exact fh.o i s' x9 (by rw[←e];exact List.getElem?_eq_getElem hi) k' kS)
       go_wp2_with (first
        |(at_builtin;(refine KM (w:=wz.alloc (.cells (FT sp).toArray 65)) (v:=.slice oa p.length oc) (l:=p) (gb:=wz.heap.size) (c:=1) rfl _ _ 116 rfl Tryz.underlying116 JA rfl (by decide) wo.heap.size sp rfl rfl (by exact gQ.o) (by exact rz.o) aP (by exact jX) ?_);intro v4 w4 o4 b4)
        |fail)
       have ul:=Z (show No wo.heap.size w4 (.slice xa xn xc) (AQ g sp) from((HX.o.pure xf.o).pure gZ.o).only b4 (fun x hx=>rz.o.not_img x hx));have xe:=Z (show Below wo.heap.size wo w4 from js.o.trans (b4.below jX fun x hx=>(rz.o.lt x hx).1));have hl4:(p++[sp]).length=p.length+1:=by rw[List.length_append];rfl
       have fc:=Z o4;obtain⟨y1,y2,rfl⟩:=o4.shape;exact⟨⟨AQ g sp,p++[sp],z,pd,ul,fc,Hdn2,n9,by rw[hl4];omega,xe⟩,by simp[A6j];omega⟩
      ·have tS:decide ((z:Int)<(n':Int))=false:=by rw[decide_eq_false_iff_not];omega
       have kM:=Z (show ∀(i:Nat)(s:Sw),i<k+1→ss[i]? =some s→∀z,Ud r c t (AQ g s) z→n'≤z from fun i s hi hs z' jy=>Hz3.o i s hi hs (by omega) z' jy);have m4:=Z (Hbu.o.trans_pure xf.o (Nat.le_refl _));clear k0 k1 k2 k3;go_wp2;go_roundw
       case rel=>exact⟨k+1,by omega,by go_num,rfl,rfl,kM,m4⟩
       case measure=>simp[intOf];omega
     ·exfalso;obtain⟨n2,rfl⟩:∃n2,n'=n2+1:=⟨n'-1,by omega⟩;obtain⟨s,cX,p1,hp1,jN⟩:=A49 hs2 Hfar.o;obtain⟨i,hi,rfl⟩:=List.getElem_of_mem (nP.o s cX);obtain⟨z,-,bT,-⟩:=aY.o _ (DI Hg.o cX);have h1:=fh.o i _ (by have:=HN.o;omega) (List.getElem?_eq_getElem hi) z bT;have h2:=bT.2 p1 hp1;omega

/- Base. -/
import Derived.Test.YthmocomfjgmjoaaGreatDoorQ18
set_option maxHeartbeats 6400000
set_option maxRecDepth 100000
namespace Go.Proofs.YthmocomfjgmjoaaGreatDoor
open Go.RowKit Go.Proofs.Tryz
variable {E:TypeId}{S T:Bk}{W:World}{g n0:Nat}{p:List Sw}{ps:List (List Sw)}{us:List Value}{v:Value}{w w':World}{wv:Value}
theorem QE(h:Ag E PS S w v us)(hb:∀g,v.ownBlock=some g→w'.heap[g]? =w.heap[g]?):Ag E PS S w' v us:=by
 rcases h with h|⟨g,arr,rfl,hg,hh,h1,h2,h3,T,t1,t2,t3⟩
 ·exact .inl h
 ·exact .inr ⟨g,arr,rfl,hg,(hb g rfl).trans hh,h1,h2,h3,T,t1,t2,t3⟩
theorem LO(h:Ag E PS S w v us):∀x,v.ownBlock=some x→S x∧∃arr,w.heap[x]? =some (.cells arr E (0,0)):=by
 intro x hx;rcases h with⟨rfl,rfl⟩|⟨g,arr,rfl,hg,hh,-⟩
 ·simp[Value.ownBlock]at hx
 ·simp[Value.ownBlock]at hx;subst hx;exact⟨hg,arr,hh⟩
theorem FM.qcc{X:Bk}{qv:Value}{gs:List I}(h:FM n0 X w qv gs)(ho:AO T w w')(h1:∀x,qv.ownBlock=some x→¬T x)(hT:∀x,T x→¬Tg n0 w x):FM n0 X w' qv gs:=by
 obtain⟨us,q1,q2,q3⟩:=h.q;have aF:=fun x hx=>(LO q1 x hx).1.2.2;exact⟨us,(Ab EW).mono (fun x hx=>⟨hx.1,hx.2.1,Aa hx.2.2 ho.size⟩) (QE q1 fun g hg=>ho.block g (aF g hg) (h1 g hg)),q2,fun k u g hu hg=>(q3 k u g hu hg).only ho hT⟩
def Zc(w:World)(u:Value)(l:List Sw):Prop:=∃b c,u=.slice (some ⟨b,0,none⟩) l.length c∧C4 w b l
structure KP(n0:Nat)(w:World)(wv:Value)(ps:List (List Sw)):Prop where
 q:∃us,Ag 116 PS (fun x=>n0≤x∧x<w.heap.size) w wv us∧us.length=ps.length∧∀(k:Nat)(u:Value)(p:List Sw),us[k]? =some u→ps[k]? =some p→Zc w u p
theorem KP.pure(h:KP n0 w wv ps)(hb:Below w.heap.size w w'):KP n0 w' wv ps:=by
 obtain⟨us,q1,q2,q3⟩:=h.q;exact⟨us,(Ab EW).mono (fun x hx=>⟨hx.1,Aa hx.2 hb.size⟩) ((Ab EW).same (Ac hb fun x hx=>hx.2) q1),q2,fun k u p hu hp=>by
  obtain⟨b,c,e,hB⟩:=q3 k u p hu hp;exact⟨b,c,e,hB.pure hb⟩⟩
theorem KP.only(h:KP n0 w wv ps)(ho:AO T w w')(hT:∀x,T x→∃arr E fz,w.heap[x]? =some (.cells arr E fz)∧E≠116∧E≠65):KP n0 w' wv ps:=by
 obtain⟨us,q1,q2,q3⟩:=h.q;refine⟨us,(Ab EW).mono (fun x hx=>⟨hx.1,Aa hx.2 ho.size⟩) (QE q1 fun g hg=>?_),q2,fun k u p hu hp=>?_⟩
 ·obtain⟨⟨-,aF⟩,arr,ha⟩:=LO q1 g hg;refine ho.block g aF fun ht=>?_;obtain⟨jD,E,fz,h1,h2,-⟩:=hT g ht;rw[ha]at h1;simp at h1;exact h2 h1.2.1.symm
 ·obtain⟨b,c,e,hB⟩:=q3 k u p hu hp;refine⟨b,c,e,hB.only ho fun ht=>?_⟩;obtain⟨jD,E,fz,h1,-,h3⟩:=hT b ht;exact hB.qav h1 h3 rfl
theorem KP.shape(h:KP n0 w wv ps):∃a k c,wv=.slice a k c∧k=ps.length:=by
 obtain⟨us,h1,h2,-⟩:=h.q;rcases h1.inv with⟨rfl,rfl⟩|⟨g,cap,rfl,-⟩
 ·exact⟨none,0,0,rfl,h2⟩
 ·exact⟨_,_,cap,rfl,h2⟩
theorem KP.at(h:KP n0 w wv ps){k:Nat}(hk:ps[k]? =some p):∃b c pb pc,wv=.slice (some ⟨b,0,none⟩) ps.length c∧b<w.heap.size∧w.cell? ⟨b,k,none⟩=some (.slice (some ⟨pb,0,none⟩) p.length pc)∧C4 w pb p:=by
 obtain⟨us,h1,h2,h3⟩:=h.q;have au:=(A5.1 hk).1;rcases h1 with⟨rfl,rfl⟩|⟨b,arr,rfl,hS,hh,e1,e2,e3,T,t1,t2,t3⟩
 ·simp at h2;omega
 ·obtain⟨u,hu⟩:∃u,us[k]? =some u:=⟨_,A3 J⟩;obtain⟨u',hu',rfl,-⟩:=t3 k u hu;obtain⟨pb,pc,rfl,hB⟩:=h3 k u' p hu hk;exact⟨b,arr.size,pb,pc,by rw[h2],lt_of_block hh,by rw[cell_of_row w b _ arr _ (0,0) hh];exact hu',hB⟩
theorem KP.start(hn:n0≤w.heap.size):KP n0 ((w.alloc (.cells #[] 65)).alloc (.cells #[.slice (some ⟨w.heap.size,0,none⟩) 0 0] 116)) (.slice (some ⟨w.heap.size+1,0,none⟩) 1 1) [[]]:=by
 have k1:B9 ((w.alloc (.cells #[] 65)).alloc (.cells #[.slice (some ⟨w.heap.size,0,none⟩) 0 0] 116)) w.heap.size #[] 65:=(B9.new w _ _).keep (Below.qab _ _);have k2:B9 ((w.alloc (.cells #[] 65)).alloc (.cells #[.slice (some ⟨w.heap.size,0,none⟩) 0 0] 116)) (w.heap.size+1) #[.slice (some ⟨w.heap.size,0,none⟩) 0 0] 116:=by
  have h:=B9.new (w.alloc (.cells #[] 65)) #[.slice (some ⟨w.heap.size,0,none⟩) 0 0] 116;rwa[show(w.alloc (.cells #[] 65)).heap.size=w.heap.size+1 from by simp]at h
 refine⟨[.slice (some ⟨w.heap.size,0,none⟩) 0 0],.inr ⟨_,_,rfl,⟨J,k2.lt⟩,k2,Jj,by simp[maxLen],Jj,fun _ _=>False,fun _ _ h=>h.elim,fun _ _ _ h=>h.elim,fun k x hk=>?_⟩,rfl,fun k v p hk hp=>?_⟩
 ·cases k with
  |zero=>simp at hk;subst hk;exact⟨_,rfl,rfl,rfl⟩
  |succ k=>simp at hk
 ·cases k with
  |zero=>
   simp at hk hp;subst hk;subst hp;exact⟨_,0,rfl,_,_,k1,fun k s hk=>by simp at hk⟩
  |succ k=>simp at hk
theorem KP.push{wz:World}{v' u:Value}(h2:us.length=ps.length)(h3:∀(k:Nat)(u:Value)(p:List Sw),us[k]? =some u→ps[k]? =some p→Zc wz u p)(hq:∀x,wv.ownBlock=some x→∃arr,wz.heap[x]? =some (.cells arr 116 (0,0)))(hu:Zc wz u p)
  (hS:∀x,S x→n0≤x∧x<w'.heap.size)(aB:Ag 116 PS S w' v' (us++[u]))(ho:AO (fun b=>wv.ownBlock=some b) wz w'):KP n0 w' v' (ps++[p]):=by
 have hk:∀{u:Value}{p:List Sw},Zc wz u p→Zc w' u p:=fun⟨b,c,e,hB⟩=>⟨b,c,e,hB.only ho fun e2=>by
  obtain⟨arr,ha⟩:=hq b e2;exact hB.qav ha Jq rfl⟩
 refine⟨us++[u],(Ab EW).mono hS aB,by rw[Ad,Ad,h2];rfl,fun k v x fH hx=>?_⟩;by_cases aF:k<us.length
 ·rw[Aq aF]at fH;rw[Aq J]at hx;exact hk (h3 k v x fH hx)
 ·have ap:k=us.length:=by
   have:=(A5.1 fH).1;rw[Ad,List.length_singleton]at this;omega
  subst ap;rw[List.getElem?_append_right (A2 _),Nat.sub_self]at fH;rw[List.getElem?_append_right J,show us.length-ps.length=0 from by omega]at hx;simp at fH hx;subst fH;subst hx;exact hk hu
theorem EU{P:Program}{fM:Array Oper}{o:Oper}{a:Act}{K:Act→World→Prop}{Q:Exit→Act→World→Prop}{Ep:Prop}(iM:o.guard=none)(s xo:Operand)(t:TypeId)
  (ho:o.op=.call {callee:=.builtin .append,args:=#[s,xo],argTypes:=#[t,t]})
  {z:Value}{bytes:Nat}(ht:P.underlying t=some (.slice 65))(cH:(P.info? 65).map (fun i=>(i.zero,i.size,i.bytes))=some (some z,4,bytes))(eM:z.cells.size=4)(dF:bytes≤64)
  (B:Nat){l k:List Sw}{gb c:Nat}(hs:a.eval s=v)(hx:a.eval xo=.slice (some ⟨gb,0,none⟩) k.length c)(bH:C4 w gb k)(aB:Cw B w v l)(aN:l.length+k.length<1073741824)(hB:B≤w.heap.size)
  (h:∀v' w',Cw B w' v' (l++k)→AO (fun b=>v.ownBlock=some b) w w'→K (a.put o.dst v') w'):
  if Region.wanted o (yielded fM a.tmps)=true then Oper.wp P o a w K Q else Ep:=by
 have hw:Region.wanted o (yielded fM a.tmps)=true:=by simp[Region.wanted,iM]
 rw[if_pos hw];obtain⟨i,hi,hz,aV,du⟩:=info_parts cH;have cD:∀j u,(LI k)[j]? =some u→w.cell? ((⟨gb,0,none⟩:Addr).add j)=some u:=by
  intro j u hj;have e:(⟨gb,0,none⟩:Addr).add j=⟨gb,j,none⟩:=by simp only[Addr.add,Nat.zero_add];split<;>simp_all
  have gY:=(A5.1 hj).1;rw[Td]at gY;obtain⟨sp,aO⟩:∃sp,k[j/4]? =some sp:=⟨_,A3 J⟩;have h4:=R7 aO (j % 4) (Nat.mod_lt _ Jq);rw[show j/4*4+j % 4=j from by omega,hj]at h4;have:=bH.cells aO h4.symm;rw[e];rwa[show j/4*4+j % 4=j from by omega]at this
 refine wp_append_own (P:=P) w s xo t ho B 65 i z 4 bytes ht hi hz aV du eM Jq v l.length (LI l) hs aB ⟨gb,0,none⟩ k.length c (LI k) hx (Td k) cD (fun u hu=>?_) (by simp[maxLen];omega) (by
  have:(l.length+k.length)*bytes≤1073741824*64:=Nat.mul_le_mul J dF;omega) hB ?_
 ·obtain⟨sp,aO,h1⟩:=List.mem_flatMap.1 hu;simp[G8]at h1;rcases h1 with rfl|rfl|rfl|rfl<;>rfl
 ·intro v' w' h1 h2 _;exact h v' w' (by unfold Cw;rw[Qt,Ad];exact h1) ⟨h2.os,h2.tape,h2.output,h2.size,fun b hb hn=>h2.block b hb (fun e=>hn e.symm)⟩
theorem A3L:(Tryz.prog.info? 116).map (fun i=>(i.zero,i.size,i.bytes))=some (some (.slice none 0 0),1,24):=by kernel_rfl
theorem U9{B:Nat}(h:B9 W g #[] 65)(hB:B≤g):Cw B W (.slice (some ⟨g,0,none⟩) 0 0) []:=⟨by simp[LI],.inr ⟨g,0,#[],rfl,hB,h,A2 _,by simp[maxLen],Jj,by simp[LI]⟩⟩
theorem C4.box{sp:Sw}(h:B9 W g (G8 sp).toArray 65):C4 W g [sp]:=⟨_,_,h,fun k s hk j u hj=>by
 cases k with
 |zero=>simp at hk;subst hk;simpa using hj
 |succ k=>simp at hk⟩
structure VSt(w wr:World)(lv wv:Value)(acc:List E3):Prop where
 l:FM w.heap.size (fun _=>False) wr lv (acc.map Prod.fst)
 y:KP w.heap.size wr wv (acc.map Prod.snd)
 bel:Below w.heap.size w wr
theorem VSt.pure{wr:World}{lv:Value}{acc:List E3}(h:VSt w wr lv wv acc)(hb:Below wr.heap.size wr w'):VSt w w' lv wv acc:=⟨h.l.pure hb,h.y.pure hb,h.bel.qaa hb (A2 _)⟩
theorem Zz(v:Value)(m:I)(r c:Nat)(w:World)(hv:AI w v m)(hs:Ax r c m)(hr1:1≤r)(hr4:r≤4)(hc1:1≤c)(hc4:c≤4):
  Calls prog 273 #[v] w fun e w'=>∃(lv wv:Value)(acc:List E3)(j:Nat),e=.returned (.tuple #[lv,wv])∧K6 r c m j acc∧acc.length≤j∧acc.length≤33554432∧VSt w w' lv wv acc:=by
 have hr5:r≤5:=J;have hc5:c≤5:=J;obtain⟨NB,hok⟩:=VP hs hs hr1 hr4 hc1 hc4 rfl rfl;have aR:=Z hok;have jn:=hok.nb;have Hv:=Z hv;obtain⟨a,cap,rfl,-⟩:=hv;clear hok;go_enter func273,ntmps273;go_wp2_with fail;refine(D5 _ m _ Hv.o (by rw[hs.1];omega) (fun x hx=>by rw[(hs.2 x hx).1];omega)).mono ?_;rintro e w1 ⟨v1,rfl,o1,b1⟩;have HI1:=Z (show O2 w.heap.size w1 v1 m from O2.qbk o1);obtain⟨a1,a2,a3,rfl⟩:=o1.shape;have cQ:=b1.size;have dK:=Below.qab w1 (.cells #[.slice a1 a2 a3] 31);obtain⟨w2,hw2⟩:∃w2,w2=w1.alloc (.cells #[.slice a1 a2 a3] 31):=⟨_,rfl⟩;have tS:w2.heap.size=w1.heap.size+1:=by rw[hw2];simp
 have nV:=Z (show FM w.heap.size (fun _=>False) w2 (.slice (some ⟨w1.heap.size,0,none⟩) 1 1) [m]from by rw[hw2];exact FM.start HI1.o rfl cQ (fun _ _ h=>h));rw[←hw2]at dK;have be:=Z (b1.qaa dK (A2 _));have Hw2:=Z hw2;have bN:=Z (show Below w2.heap.size w2 ((w2.alloc (.cells #[] 65)).alloc (.cells #[.slice (some ⟨w2.heap.size,0,none⟩) 0 0] 116))from(Below.qab _ _).qaa (Below.qab _ _) (A2 _));have jo:=Z (show VSt w ((w2.alloc (.cells #[] 65)).alloc (.cells #[.slice (some ⟨w2.heap.size,0,none⟩) 0 0] 116)) (.slice (some ⟨w1.heap.size,0,none⟩) 1 1) (.slice (some ⟨w2.heap.size+1,0,none⟩) 1 1) [(m,[])]from⟨nV.o.pure bN.o,KP.start be.o.size,be.o.qaa bN.o (A2 _)⟩);have mI:=Z (RG r c m);have yf:=Z tS;clear o1 hw2 dK tS;go_wp2;rw[←Hw2.o];go_loopw [4,5,6,8,9] (fun lv wv iv _ _ wr=>∃(j:Nat)(acc:List E3),j≤NB∧iv=.int .i64 j∧Hid (K6 r c m j acc)∧Hid (VSt w wr lv wv acc)) (fun _ _ iv _ _ _=>NB+1-(intOf iv).toNat);exact⟨0,[(m,[])],A7 _,rfl,mI,by rw[yf.o]at jo;exact jo⟩;clear mI jo;obtain⟨j,acc,hj,rfl,d9,aG⟩:=hrel;obtain⟨wo,rfl⟩:∃wo:World,wo=wr:=⟨_,rfl⟩;obtain⟨la,lc,rfl⟩:=aG.o.l.shape;obtain⟨ya,yk,yc,rfl,hZ⟩:=aG.o.y.shape;rw[Ay]at hZ;obtain⟨L,hL⟩:∃L,L=(acc.map Prod.fst).length:=⟨_,rfl⟩;rw[←hL]at aG⊢;rw[Ay]at hL;have sE:L≤NB:=by rw[hL];exact aR.o.boundI _ _ d9.o
 have HL:=Z hL;have yg:yk=L:=J;subst yg;clear hL hZ;by_cases aF:j<yk
 ·obtain⟨e0,he0⟩:∃e0,acc[j]? =some e0:=⟨_,A3 (by rw[←HL.o];exact aF)⟩;have iQ:=Kz hs d9.o.path e0 (A4 he0);have fT:(acc.map Prod.fst)[j]? =some e0.1:=by rw[Ak,he0];rfl
  obtain⟨qb,qc',u,he,hqb,nQ,hiu⟩:=aG.o.l.at fT;obtain⟨rfl,-⟩:la=some ⟨qb,0,none⟩∧lc=qc':=by
   simp only[Value.slice.injEq]at he;exact⟨he.1,he.2.2⟩
  have ld:=Z hiu;obtain⟨ua,uc,rfl,-⟩:=hiu.qag;have cz:=Z (d9.o.mid he0);have yh:j+1≤NB:=J;have dQ:=Z (show ∀s∈Bj r c e0.1,CL r c e0.1 s from fun s hs=>DD.1 hs);have jE:=Ii hr4 hc4 e0.1;have jF:=Z (G9 hr5 hc5 e0.1);obtain⟨ss,iR⟩:∃ss,ss=Bj r c e0.1:=⟨_,rfl⟩;rw[←iR]at dQ jE jF;have mJ:=Z iR;clear he he0 hiu fT iR;go_wp2_with fail;refine(Oq _ e0.1 r c _ ld.o.qag iQ hr1 hr5 hc1 hc5).mono ?_;rintro e wS ⟨vs,rfl,oS,bS⟩;rw[←mJ.o]at oS;have pJ:=Z (show 0<ss.length→∃g cap,vs=.slice (some ⟨g,0,none⟩) ss.length cap∧wo.heap.size≤g∧C4 wS g ss from fun h=>oS.blk h);obtain⟨sa,sc,rfl⟩:=oS.shape;obtain⟨N,hN⟩:∃N,N=ss.length:=⟨_,rfl⟩;rw[←hN]at jE pJ⊢;have HN:=Z hN;have mK:=Z (aG.o.pure bS);clear hN oS;go_wp2;clear nQ;go_loopw [4,5,8,9,27] (fun lv wv _ _ i wr=>∃(k:Nat)(acc:List E3),k≤N∧i=.int .i64 k∧Hid (LF r c m j e0 (ss.take k) acc)∧Hid (VSt w wr lv wv acc)∧Hid (∀g,C4 wS g ss→C4 wr g ss)) (fun _ _ _ _ i _=>N-(intOf i).toNat);exact⟨0,acc,A7 _,rfl,cz,mK,Z fun _ h=>h⟩;clear cz mK aG d9 HL aF ld;obtain⟨k,acc,hk,rfl,cz,aG,Hkeep⟩:=hrel;obtain⟨wi,rfl⟩:∃wi:World,wi=wr:=⟨_,rfl⟩;obtain⟨la,lc,rfl⟩:=aG.o.l.shape;obtain⟨ya,yk,yc,rfl,hZ⟩:=aG.o.y.shape;rw[Ay]at hZ;obtain⟨L,hL⟩:∃L,L=(acc.map Prod.fst).length:=⟨_,rfl⟩;rw[←hL]at aG⊢;have nV:=Z hL;rw[Ay]at hL;have sE:L≤NB:=by rw[hL];exact aR.o.boundM _ _ _ _ cz.o
  have HL:=Z hL;have yg:yk=L:=J;subst yg;clear hL hZ;by_cases hltk:k<N
  ·obtain⟨sp,aO⟩:∃sp,ss[k]? =some sp:=⟨_,A3 (by rw[←HN.o];exact hltk)⟩;have fo:=dQ.o sp (A4 aO);obtain⟨g,cap,he,kT,cF⟩:=pJ.o J;obtain⟨rfl,-⟩:sa=some ⟨g,0,none⟩∧sc=cap:=by
    simp only[Value.slice.injEq]at he;exact⟨he.1,he.2.2⟩
   have cF:=Hkeep.o g cF;have bz:=cF.lt;have c0:=cF.cells aO (j:=0) (u:=.int .i64 sp.1) rfl;have c1:=cF.cells aO (j:=1) (u:=.int .i64 sp.2.1) rfl;have c2:=cF.cells aO (j:=2) (u:=.int .i64 sp.2.2.1) rfl;have c3:=cF.cells aO (j:=3) (u:=.int .i64 sp.2.2.2) rfl;rw[AF]at c0;have fT:(acc.map Prod.fst)[j]? =some e0.1:=by rw[Ak,cz.o.at0];rfl
   have hjL:j<yk:=by
    have:=(A5.1 fT).1;rw[Ay]at this;rw[HL.o];exact this
   obtain⟨qb,qc',u,dX,hqb,nQ,hiu⟩:=aG.o.l.at fT;obtain⟨rfl,-⟩:la=some ⟨qb,0,none⟩∧lc=qc':=by
    simp only[Value.slice.injEq]at dX;exact⟨dX.1,dX.2.2⟩
   have ld:=Z hiu;obtain⟨ua,uc,rfl,-⟩:=hiu.qag;have HU:=Z (show ∀w',Below wi.heap.size wi w'→AI w' _ e0.1 from fun w' hb=>(ld.o.pure hb).qag);have bn:=Z (Below.qab wi (.cells (G8 sp).toArray 65));have iS:=Z (B9.new wi (G8 sp).toArray 65);have iT:=Cu iQ fo;have dP:=Z fo;have eG:=Z aO;clear he dX hiu cF fT fo aO;go_wp2;go_region_with (go_at_call 209;refine(S9 _ e0.1 r c sp _ (HU.o _ (by exact⟨bn.o.os,bn.o.tape,bn.o.output,bn.o.size,bn.o.block⟩)) iQ hr1 hr5 hc1 hc5 dP.o).mono ?_;rintro e u1 ⟨x1,rfl,q1,d1⟩)
   all_goals
    have hd:Below wi.heap.size wi u1:=bn.o.qaa (by exact⟨d1.os,d1.tape,d1.output,d1.size,d1.block⟩) (A2 _);have cZ:=Z (aG.o.pure hd);have HX:=Z (show O2 w.heap.size u1 x1 (Ba e0.1 sp)from O2.qbk q1);obtain⟨xa,xn,xc,rfl⟩:=q1.shape;have iU:=Z (show ∀g,C4 wS g ss→C4 u1 g ss from fun g h2=>(Hkeep.o g h2).pure hd);have bY:=Kz hs cz.o.path;have bT:=Z (show LF r c m j e0 (ss.take (k+1)) (Qd e0 acc sp)from by
     rw[Ao,eG.o];refine cz.o.step dP.o fun s1 cQ=>?_;obtain⟨i,hi,e⟩:=List.getElem_of_mem cQ;rw[List.getElem_take]at e;rw[At]at hi;obtain⟨fH,jp⟩:=A5.1 eG.o;have:=List.pairwise_iff_getElem.1 jF.o i k J fH J;rw[e,jp]at this;exact this)
    have jq:=Z (iS.o.keep (by exact⟨d1.os,d1.tape,d1.output,d1.size,d1.block⟩));have hgl1:wi.heap.size<u1.heap.size:=jq.o.lt;have lH:=hd.size;clear q1 d1 hd c0 c1 c2 c3;go_wp2_with fail;refine(Ur _ _ (acc.map Prod.fst) (Ba e0.1 sp) _ (by rw[←nV.o]at*;exact cZ.o.l.qan) HX.o.qag).mono ?_;rintro e u2 ⟨z,rfl,hz,b2⟩;have bM:=Z (cZ.o.pure b2);have yi:=Z (HX.o.pure b2);have jr:=Z (show ∀g,C4 wS g ss→C4 u2 g ss from fun g h2=>(iU.o g h2).pure b2);rcases hz with⟨bL,bQ⟩|⟨kz,bL,bQ⟩
    ·have tT:decide (z<0)=true:=by rw[Ah];omega
     have yj:z<0:=J;have bq:=Z (show LF r c m j e0 (ss.take (k+1)) (acc++[(Ba e0.1 sp,e0.2++[sp])])from by
      have h:=bT.o;unfold Qd at h;rwa[if_neg (by
       intro h1;obtain⟨x,bj,dZ⟩:=List.any_eq_true.1 h1;rw[Ah]at dZ;exact bQ x.1 (List.mem_map_of_mem bj) dZ)]at h)
     have tU:=Z (jq.o.keep b2);clear bL bQ;obtain⟨us,cf,ct,hq3⟩:=bM.o.l.q;have fE:=Z cf;have q8:us.length<1099511627776:=by rw[ct,←nV.o];omega
     have hwu:=bM.o.bel.size;have fa:=Z bM.o.bel;have aC:=Z bM.o.l.qbl;clear cf;go_wp2_with (first|(at_builtin;(refine GM (w0:=u2) rfl _ _ 77 rfl EW 31 underlying77 V2 rfl Jq (fun x=>w.heap.size≤x∧¬False∧x<u2.heap.size) (fun _=>False) (fun x=>w.heap.size≤x∧¬False) _ (.slice xa xn xc) us (.slice xa xn xc) rfl rfl (by exact fE.o) (by exact⟨rfl,rfl⟩) (fun _ _ h=>h) (fun _ h=>h.2.2) (fun _ h=>h.elim) (fun _ h=>⟨h.1,h.2.1⟩) (fun _ h=>h.elim) (fun x hx=>⟨J,id⟩) q8 ?_);intro v7 w7 o7 ho7)|fail);have HL7:=Z (show FM w.heap.size (fun _=>False) w7 v7 (acc.map Prod.fst++[Ba e0.1 sp])from FM.push ct hq3 (fun x hx=>(aC.o x hx).2.2.2.2) yi.o o7 ho7);have HY7:=Z (show KP w.heap.size w7 _ (acc.map Prod.snd)from bM.o.y.only ho7 (fun x hx=>by
      obtain⟨arr,ha⟩:=(aC.o x hx).2.2.2.1;exact⟨arr,_,_,ha,Jq,Jq⟩))
     have yl:=Z (show Below w.heap.size w w7 from fa.o.trans (ho7.below fa.o.size fun x hx=>(aC.o x hx).1));have mL:=Z (show B9 w7 wi.heap.size (G8 sp).toArray 65 from tU.o.only ho7 (fun hx=>by
      obtain⟨arr,ha⟩:=(aC.o _ hx).2.2.2.1;rw[show u2.heap[wi.heap.size]? =some (.cells (G8 sp).toArray 65 (0,0))from tU.o]at ha;simp at ha))
     have iV:=Z (show ∀g,C4 wS g ss→C4 w7 g ss from fun g h2=>(jr.o g h2).only ho7 (fun e=>by
      obtain⟨arr,ha⟩:=(aC.o g e).2.2.2.1;exact(jr.o g h2).qav ha Jq rfl))
     have fd:(acc.map Prod.snd)[j]? =some e0.2:=by rw[Ak,cz.o.at0];rfl
     obtain⟨wb,wc',pb,pc,xP,xQ,hwc,hpb⟩:=HY7.o.at fd;obtain⟨rfl,-⟩:ya=some ⟨wb,0,none⟩∧yc=wc':=by
      simp only[Value.slice.injEq]at xP;exact⟨xP.1,xP.2.2⟩
     have tV:=Z hpb;have q9:=cz.o.len j e0 cz.o.at0;have k0:w7.cell? ⟨wi.heap.size,0,none⟩=some (.int .i64 sp.1):=mL.o.cell 0;have k1:w7.cell? ⟨wi.heap.size,1,none⟩=some (.int .i64 sp.2.1):=mL.o.cell 1;have k2:w7.cell? ⟨wi.heap.size,2,none⟩=some (.int .i64 sp.2.2.1):=mL.o.cell 2;have k3:w7.cell? ⟨wi.heap.size,3,none⟩=some (.int .i64 sp.2.2.2):=mL.o.cell 3;have jG:=mL.o.lt;clear xP hpb fd;have tW:([]:List Sw).length+e0.2.length<1073741824:=by rw[List.length_nil];omega
     have qd:e0.2.length+[sp].length<1073741824:=by rw[List.length_singleton];omega
     have tX:=Z (show C4 (w7.alloc (.cells #[] 65)).drew pb e0.2 from(show C4 (w7.alloc (.cells #[] 65)) pb e0.2 from tV.o.pure (Below.qab w7 (.cells #[] 65))));have mM:=Z (U9 (B9.new w7 #[] 65) (A2 w7.heap.size));have lI:=Z (Below.qab w7 (.cells #[] 65));have nr:=Z (show Below w7.heap.size w7 ((w7.alloc (.cells #[] 65)).alloc (.cells (G8 sp).toArray 65))from(Below.qab _ _).qaa (Below.qab _ _) (A2 _));have ym:=Z (tV.o.pure nr.o);have tY:=Z (mM.o.keep (Below.qab _ (.cells (G8 sp).toArray 65)));have yo:=Z (show B9 ((w7.alloc (.cells #[] 65)).alloc (.cells (G8 sp).toArray 65)) (w7.heap.size+1) (G8 sp).toArray 65 from by
      have h:=B9.new (w7.alloc (.cells #[] 65)) (G8 sp).toArray 65;rwa[show(w7.alloc (.cells #[] 65)).heap.size=w7.heap.size+1 from by simp]at h)
     have ns:=Z (show Below w7.heap.size w7 ((w7.alloc (.cells (G8 sp).toArray 65)).alloc (.cells #[] 65))from(Below.qab _ _).qaa (Below.qab _ _) (A2 _));have yp:=Z (tV.o.pure ns.o);have tZ:=Z (show Cw w7.heap.size ((w7.alloc (.cells (G8 sp).toArray 65)).alloc (.cells #[] 65)) (.slice (some ⟨w7.heap.size+1,0,none⟩) 0 0) []from U9 (by
      have h:=B9.new (w7.alloc (.cells (G8 sp).toArray 65)) #[] 65;rwa[show(w7.alloc (.cells (G8 sp).toArray 65)).heap.size=w7.heap.size+1 from by simp]at h) J)
     have jl:=Z (show B9 ((w7.alloc (.cells (G8 sp).toArray 65)).alloc (.cells #[] 65)) w7.heap.size (G8 sp).toArray 65 from(B9.new w7 (G8 sp).toArray 65).keep (Below.qab _ _));obtain⟨uw,hw1,hw2,hw3⟩:=HY7.o.q;have xR:=Z hw1;have Hw3:=Z hw3;have huw:uw.length<1099511627776:=by rw[hw2,Ay,←HL.o];omega
     have Huw:=Z hw2;have Hwt:=Z (fun x hx=>LO xR.o x hx);have hw70:=yl.o.size;clear hw1 hw3
     go_region_law (first
      |(refine EU (v:=.slice (some ⟨w7.heap.size,0,none⟩) 0 0) (l:=[]) (k:=e0.2) (gb:=pb) (c:=pc) rfl (.tmp 46) (.tmp 50) 116 rfl underlying116 K8 rfl Jq w7.heap.size (by simp[Act.eval]) (by simp[Act.eval]) (by with_reducible exact tX.o) (by exact mM.o) tW (by exact lI.o.size) ?_;intro v8 w8 o8 h8;rw[List.nil_append]at o8;have lf:=Z o8;have ip:=Z (show Below w7.heap.size w7 w8 from lI.o.trans ((show AO _ (w7.alloc (.cells #[] 65)) w8 from⟨h8.os,h8.tape,h8.output,h8.size,h8.block⟩).below lI.o.size fun b hb=>by simp[Value.ownBlock]at hb;omega));obtain⟨z1,z2,rfl⟩:=o8.shape;have k80:=(ip.o.cell (p:=⟨wi.heap.size,0,none⟩) jG).trans k0;have k81:=(ip.o.cell (p:=⟨wi.heap.size,1,none⟩) jG).trans k1;have k82:=(ip.o.cell (p:=⟨wi.heap.size,2,none⟩) jG).trans k2;have k83:=(ip.o.cell (p:=⟨wi.heap.size,3,none⟩) jG).trans k3;have t6:=Z (C4.box (B9.new w8 (G8 sp).toArray 65));have lJ:=Z (Below.qab w8 (.cells (G8 sp).toArray 65));have qe:=Z (lf.o.keep lJ.o);have fc:=Aj ip.o.size lJ.o.size;clear o8 h8)
      |(refine EU (v:=.slice (some ⟨w7.heap.size,0,none⟩) 0 0) (l:=[]) (k:=e0.2) (gb:=pb) (c:=pc) rfl (.tmp 46) (.tmp 50) 116 rfl underlying116 K8 rfl Jq w7.heap.size (by simp[Act.eval]) (by simp[Act.eval]) (by exact ym.o) (by exact tY.o) tW (by exact nr.o.size) ?_;intro v8 w8 o8 h8;rw[List.nil_append]at o8;have lf:=Z o8;have ip:=Z (show Below w7.heap.size w7 w8 from nr.o.trans ((show AO _ ((w7.alloc (.cells #[] 65)).alloc (.cells (G8 sp).toArray 65)) w8 from⟨h8.os,h8.tape,h8.output,h8.size,h8.block⟩).below nr.o.size fun b hb=>by simp[Value.ownBlock]at hb;omega));obtain⟨z1,z2,rfl⟩:=o8.shape;have mN:=Z ((C4.box yo.o).only (show AO _ ((w7.alloc (.cells #[] 65)).alloc (.cells (G8 sp).toArray 65)) w8 from⟨h8.os,h8.tape,h8.output,h8.size,h8.block⟩) (fun e=>by simp[Value.ownBlock]at e));have mO:=ip.o.size;clear o8 h8)
      |(refine EU (v:=.slice (some ⟨w7.heap.size+1,0,none⟩) 0 0) (l:=[]) (k:=e0.2) (gb:=pb) (c:=pc) rfl (.tmp 46) (.tmp 50) 116 rfl underlying116 K8 rfl Jq w7.heap.size (by simp[Act.eval]) (by simp[Act.eval]) (by with_reducible exact tX.o) (by exact mM.o) tW (by exact lI.o.size) ?_;intro v8 w8 o8 h8;rw[List.nil_append]at o8;have lf:=Z o8;have ip:=Z (show Below w7.heap.size w7 w8 from lI.o.trans ((show AO _ (w7.alloc (.cells #[] 65)) w8 from⟨h8.os,h8.tape,h8.output,h8.size,h8.block⟩).below lI.o.size fun b hb=>by simp[Value.ownBlock]at hb;omega));obtain⟨z1,z2,rfl⟩:=o8.shape;have k80:=(ip.o.cell (p:=⟨wi.heap.size,0,none⟩) jG).trans k0;have k81:=(ip.o.cell (p:=⟨wi.heap.size,1,none⟩) jG).trans k1;have k82:=(ip.o.cell (p:=⟨wi.heap.size,2,none⟩) jG).trans k2;have k83:=(ip.o.cell (p:=⟨wi.heap.size,3,none⟩) jG).trans k3;have t6:=Z (C4.box (B9.new w8 (G8 sp).toArray 65));have lJ:=Z (Below.qab w8 (.cells (G8 sp).toArray 65));have qe:=Z (lf.o.keep lJ.o);have fc:=Aj ip.o.size lJ.o.size;clear o8 h8)
      |(refine EU (v:=.slice (some ⟨w7.heap.size+1,0,none⟩) 0 0) (l:=[]) (k:=e0.2) (gb:=pb) (c:=pc) rfl (.tmp 46) (.tmp 50) 116 rfl underlying116 K8 rfl Jq w7.heap.size (by simp[Act.eval]) (by simp[Act.eval]) (by exact yp.o) (by exact tZ.o) tW (by exact ns.o.size) ?_;intro v8 w8 o8 h8;rw[List.nil_append]at o8;have lf:=Z o8;have ip:=Z (show Below w7.heap.size w7 w8 from ns.o.trans ((show AO _ ((w7.alloc (.cells (G8 sp).toArray 65)).alloc (.cells #[] 65)) w8 from⟨h8.os,h8.tape,h8.output,h8.size,h8.block⟩).below ns.o.size fun b hb=>by simp[Value.ownBlock]at hb;omega));obtain⟨z1,z2,rfl⟩:=o8.shape;have mN:=Z ((C4.box jl.o).only (show AO _ ((w7.alloc (.cells (G8 sp).toArray 65)).alloc (.cells #[] 65)) w8 from⟨h8.os,h8.tape,h8.output,h8.size,h8.block⟩) (fun e=>by simp[Value.ownBlock]at e));have mO:=ip.o.size;clear o8 h8)
      |(refine EU (v:=.slice z1 e0.2.length z2) (l:=e0.2) (k:=[sp]) (gb:=w7.heap.size+1) (c:=1) rfl (.tmp 51) (.tmp 53) 116 rfl underlying116 K8 rfl Jq w7.heap.size (by simp[Act.eval]) (by simp[Act.eval]) (by exact mN.o) (by exact lf.o) qd (by exact mO) ?_;intro v9 w9 o9 h9;have sK:=Z o9;have t7:=Z (show Below w7.heap.size w7 w9 from ip.o.trans (h9.below mO fun b hb=>(lf.o.lt b hb).1));obtain⟨y1,y2,rfl⟩:=o9.shape;have lK:=Z (Below.qab w9 (.cells #[.slice y1 (e0.2.length+1) y2] 116));have dz:=Z (t7.o.qaa lK.o (A2 _));have yq:=Z ((Ab EW).same (Ac dz.o fun b hb=>hb.2) xR.o);have qf:=dz.o.size;clear o9 h9)
      |(refine EU (v:=.slice z1 e0.2.length z2) (l:=e0.2) (k:=[sp]) (gb:=w7.heap.size) (c:=1) rfl (.tmp 51) (.tmp 53) 116 rfl underlying116 K8 rfl Jq w7.heap.size (by simp[Act.eval]) (by simp[Act.eval]) (by exact mN.o) (by exact lf.o) qd (by exact mO) ?_;intro v9 w9 o9 h9;have sK:=Z o9;have t7:=Z (show Below w7.heap.size w7 w9 from ip.o.trans (h9.below mO fun b hb=>(lf.o.lt b hb).1));obtain⟨y1,y2,rfl⟩:=o9.shape;have lK:=Z (Below.qab w9 (.cells #[.slice y1 (e0.2.length+1) y2] 116));have dz:=Z (t7.o.qaa lK.o (A2 _));have yq:=Z ((Ab EW).same (Ac dz.o fun b hb=>hb.2) xR.o);have qf:=dz.o.size;clear o9 h9)
      |(refine EU (v:=.slice z1 e0.2.length z2) (l:=e0.2) (k:=[sp]) (gb:=w8.heap.size) (c:=1) rfl (.tmp 51) (.tmp 53) 116 rfl underlying116 K8 rfl Jq w7.heap.size (by simp[Act.eval]) (by simp[Act.eval]) (by exact t6.o) (by exact qe.o) qd (by exact fc) ?_;intro v9 w9 o9 h9;have sK:=Z o9;have t7:=Z (show Below w7.heap.size w7 w9 from(ip.o.qaa lJ.o (A2 _)).trans ((show AO _ (w8.alloc (.cells (G8 sp).toArray 65)) w9 from⟨h9.os,h9.tape,h9.output,h9.size,h9.block⟩).below fc fun b hb=>(qe.o.lt b hb).1));obtain⟨y1,y2,rfl⟩:=o9.shape;have lK:=Z (Below.qab w9 (.cells #[.slice y1 (e0.2.length+1) y2] 116));have dz:=Z (t7.o.qaa lK.o (A2 _));have yq:=Z ((Ab EW).same (Ac dz.o fun b hb=>hb.2) xR.o);have qf:=dz.o.size;clear o9 h9)
      |(refine J2 (w:=w9.alloc (.cells #[.slice y1 (e0.2.length+1) y2] 116)) (v:=.slice (some ⟨wb,0,none⟩) yk yc) (u:=.slice y1 (e0.2.length+1) y2) (x:=.slice y1 (e0.2.length+1) y2) (gb:=w9.heap.size) (c:=1) rfl (.tmp 45) (.tmp 55) 203 rfl EW 116 underlying203 A3L rfl Jq (fun x=>w.heap.size≤x∧x<w7.heap.size) (fun _=>False) (by simp[Act.eval]) (by simp[Act.eval]) (by exact(B9.new w9 #[.slice y1 (e0.2.length+1) y2] 116).cell 0) (by exact yq.o) (by exact⟨rfl,rfl⟩) (fun _ _ h=>h) (fun b h1=>Aa h1.2 qf) (fun _ h=>h.elim) huw ?_;intro yr w10 o10 h10))
     all_goals
      have t8:=dz.o.size;have HSW:=Z (show Zc (w9.alloc (.cells #[.slice y1 (e0.2.length+1) y2] 116)) (.slice y1 (e0.2.length+1) y2) (e0.2++[sp])from by
       obtain⟨gq,cq,cu,-,hB⟩:=sK.o.blk Jj;have hl9:(e0.2++[sp]).length=e0.2.length+1:=Jj;rw[hl9]at cu;exact⟨gq,cq,by rw[hl9];exact cu,hB.pure lK.o⟩)
      have yt:=Z (show KP w.heap.size w10 yr (acc.map Prod.snd++[e0.2++[sp]])from KP.push Huw.o (fun k u p hu hp=>by
       obtain⟨b,c,e,hB⟩:=Hw3.o k u p hu hp;exact⟨b,c,e,hB.pure dz.o⟩) (fun x hx=>by
       obtain⟨⟨-,aF⟩,arr,ha⟩:=Hwt.o x hx;exact⟨arr,(dz.o.block x aF).trans ha⟩) HSW.o (fun x hx=>⟨hx.1.elim (fun h=>h.1) (fun h=>h.elim (fun h=>h.elim) (fun h=>by omega)),hx.2⟩) o10 h10)
      have mP:∀x,Value.ownBlock (.slice (some ⟨wb,0,none⟩) yk yc)=some x→w.heap.size≤x∧∃arr,(w9.alloc (.cells #[.slice y1 (e0.2.length+1) y2] 116)).heap[x]? =some (.cells arr 116 (0,0)):=fun x hx=>by
       obtain⟨⟨h1,aF⟩,arr,ha⟩:=Hwt.o x hx;exact⟨h1,arr,(dz.o.block x aF).trans ha⟩
      have yu:=Z (show FM w.heap.size (fun _=>False) w10 v7 (acc.map Prod.fst++[Ba e0.1 sp])from(HL7.o.pure dz.o).qcc h10 (fun x hx e=>by
       obtain⟨-,-,-,⟨arr,ha⟩,-⟩:=(HL7.o.pure dz.o).qbl x hx;obtain⟨-,jD,pK⟩:=mP x e;rw[ha]at pK;simp at pK) (fun x e=>by
       obtain⟨h1,jD,pK⟩:=mP x e;exact not_img h1 pK Jq Jq))
      have td:=yl.o.size;have tf:=Z (show VSt w w10 v7 yr (acc++[(Ba e0.1 sp,e0.2++[sp])])from⟨by rw[List.map_append];exact yu.o,by rw[List.map_append];exact yt.o,(yl.o.qaa dz.o (A2 _)).trans (h10.below (Aj td t8) fun x e=>(mP x e).1)⟩);have nt:=Z (show ∀g,C4 wS g ss→C4 w10 g ss from fun g h2=>((iV.o g h2).pure dz.o).only h10 (fun e=>by
       obtain⟨-,jD,pK⟩:=mP g e;exact((iV.o g h2).pure dz.o).qav pK Jq rfl))
      clear mP o10 h10 k0 k1 k2 k3 hwc nQ;go_wp2;go_roundw;exact⟨k+1,_,J,by go_num,bq,tf,nt⟩;exact Jv
    ·have tT:decide (z<0)=false:=by rw[decide_eq_false_iff_not];omega
     have yj:¬z<0:=J;have Hp:=Z (show LF r c m j e0 (ss.take (k+1)) acc from by
      have h:=bT.o;unfold Qd at h;rwa[if_pos (List.any_eq_true.2 (by
       obtain⟨x,bj,dZ⟩:=AE.1 (A4 bQ);exact⟨x,bj,by rw[Ah];exact dZ⟩))]at h)
     clear bL bQ;go_wp2;go_roundw;exact⟨k+1,acc,J,by go_num,Hp,bM,jr⟩;exact Jv
  ·obtain rfl:k=N:=J;have mQ:=Z (show K6 r c m (j+1) acc from by
    have h:=cz.o;rw[A9 (by rw[←HN.o];exact A2 _),mJ.o]at h;exact h.last)
   go_wp2;go_roundw;exact⟨j+1,acc,yh,by go_num,mQ,aG⟩;exact Jv
 ·have eh:acc.length≤j:=by rw[←HL.o];omega
  have lg:acc.length≤33554432:=by rw[←HL.o];omega
  have iW:=Z (And.intro eh lg);clear eh lg;go_wp2;refine Jz #[.slice la yk lc,.slice ya yk yc] (by simp[results,results273,go_sem]) ?_;exact⟨_,_,acc,j,rfl,d9.o,iW.o.1,iW.o.2,aG.o⟩
theorem A05(v v2:Value)(m t:I)(w:World)(hv:AI w v m)(aS:AI w v2 t)(mR:Ik m t=false):Calls prog 202 #[v,v2] w fun e w'=>e=.returned (.tuple #[.slice none 0 0,.bool false])∧Below w.heap.size w w':=by
 have Hv:=Z hv;have aY:=Z aS;obtain⟨a,cap,rfl,-⟩:=hv;obtain⟨a2,cap2,rfl,-⟩:=aS;cases dr:E8 m t
 ·have lh:=Z dr;clear dr mR;go_enter func202,ntmps202;go_wp2_with fail;refine(NX _ _ m t _ Hv.o aY.o).mono ?_;rintro e w1 ⟨rfl,b1⟩;rw[lh.o];go_wp2;refine Jz #[.slice none 0 0,.bool false] (by simp[results,results202,go_sem]) ?_;exact⟨rfl,b1⟩
 obtain⟨r,c,ha⟩:=PW dr;have yv:=Z (show(decide (r≤4)&&decide (c≤4))=false from by
  unfold Ik at mR;rw[dr,ha.l1,ha.l2,Bool.true_and]at mR;exact mR)
 have lh:=Z dr;clear dr mR;go_enter func202,ntmps202;go_wp2_with fail;refine(NX _ _ m t _ Hv.o aY.o).mono ?_;rintro e w1 ⟨rfl,b1⟩;rw[lh.o];go_wp2_with fail;refine(T4 _ m r c _ (Hv.o.keep b1) ha.hs ha.hr1 ha.hc1).mono ?_;rintro e w' ⟨rfl,rfl⟩;rw[yv.o];go_wp2;refine Jz #[.slice none 0 0,.bool false] (by simp[results,results202,go_sem]) ?_;exact⟨rfl,b1⟩
theorem Xt(v v2:Value)(m t:I)(r c:Nat)(w:World)(hv:AI w v m)(aS:AI w v2 t)(dr:E8 m t=true)(ha:Rx m t r c)(hr4:r≤4)(hc4:c≤4):Calls prog 202 #[v,v2] w fun e w'=>∃v' W,e=.returned (.tuple #[v',.bool true])∧Ki r c m t W∧W.length≤33554432∧Zc w' v' W∧Below w.heap.size w w':=by
 have Hv:=Z hv;have aY:=Z aS;obtain⟨a,cap,rfl,-⟩:=hv;obtain⟨a2,cap2,rfl,-⟩:=aS;obtain⟨hs,hs2,hr1,hr5,hc1,hc5,e1,e2,-,-⟩:=ha;have yv:=Z (show(decide (r≤4)&&decide (c≤4))=true from by rw[decide_eq_true hr4,decide_eq_true hc4];rfl);obtain⟨NB,hok⟩:=VP hs2 hs hr1 hr4 hc1 hc4 e1.symm e2.symm;have aR:=Z hok;have lh:=Z dr;clear dr hok e1 e2;go_enter func202,ntmps202;go_wp2_with fail;refine(NX _ _ m t _ Hv.o aY.o).mono ?_;rintro e w1 ⟨rfl,b1⟩;rw[lh.o];go_wp2_with fail;refine(T4 _ m r c _ (Hv.o.keep b1) hs hr1 hc1).mono ?_;rintro e w' ⟨rfl,rfl⟩;rw[yv.o];go_wp2_with fail;refine(Zz _ m r c _ (Hv.o.keep b1) hs hr1 hr4 hc1 hc4).mono ?_;rintro e w2 ⟨lv,wv,acc,j,rfl,gj,eh,fm,bB⟩;have nu:=b1.qaa bB.bel (A2 _);obtain⟨en,hen1,hen2⟩:=gj.found eh aR.o.sumt aR.o.sums;have d9:=Z gj;have iW:=Z eh;have HL:=Z bB.l.qan;have HY:=Z bB.y;have Hen:=Z (show t∈acc.map Prod.fst from by rw[←hen2];exact List.mem_map_of_mem hen1);obtain⟨l1,l2,rfl⟩:=bB.l.shape;obtain⟨y1,y2,y3,rfl,hy2⟩:=bB.y.shape;have Hy2:=Z hy2;obtain⟨L,hL⟩:∃L,L=(acc.map Prod.fst).length:=⟨_,rfl⟩;rw[←hL]at HL⊢;clear bB gj eh hen1 hen2 hy2 hL;go_wp2_with fail;refine(Ur _ _ (acc.map Prod.fst) t _ HL.o (aY.o.keep nu)).mono ?_;rintro e w3 ⟨z,rfl,hz,b3⟩;rcases hz with⟨-,bQ⟩|⟨k,rfl,bQ⟩
 ·exact absurd rfl (bQ t Hen.o)
 rw[Ak]at bQ;obtain⟨nd,gn,hnt⟩:=Option.map_eq_some_iff.1 bQ;have fd:(acc.map Prod.snd)[k]? =some nd.2:=by rw[Ak,gn];rfl
 obtain⟨wb,wc,pb,pc,he,xQ,hwc,hpb⟩:=(HY.o.pure b3).at fd;obtain⟨rfl,-⟩:y1=some ⟨wb,0,none⟩∧y3=wc:=by
  simp only[Value.slice.injEq]at he;exact⟨he.1,he.2.2⟩
 have ku:k<y2:=by
  rw[Hy2.o];exact(A5.1 fd).1
 have tV:=Z hpb;have Hle:=Z (show Ki r c m t nd.2 from by
  have h:=d9.o.least iW.o (A4 gn);rwa[hnt]at h)
 have aN:nd.2.length≤33554432:=by
  have h1:=d9.o.len k nd gn;have h2:=(A5.1 gn).1;omega
 have js:=nu.qaa b3 (A2 _);clear bQ he hpb fd;go_wp2;refine Jz #[.slice (some ⟨pb,0,none⟩) nd.2.length pc,.bool true] (by simp[results,results202,go_sem]) ?_;exact⟨_,nd.2,rfl,Hle.o,aN,⟨pb,pc,rfl,tV.o⟩,js⟩
theorem Y6(v v2:Value)(m t:I)(w:World)(hv:AI w v m)(aS:AI w v2 t):Calls prog 142 #[v,v2] w fun e w'=>∃T,e=.returned (.string T)∧Qw m t T∧Below w.heap.size w w':=by
 cases hp:Ik m t
 ·have Hp:=Z hp;have Hv:=Z hv;have aY:=Z aS;obtain⟨a,cap,rfl,-⟩:=hv;obtain⟨a2,cap2,rfl,-⟩:=aS;clear hp;go_enter func142,ntmps142;go_wp2_with fail;refine(A05 _ _ m t _ Hv.o aY.o Hp.o).mono ?_;rintro e w1 ⟨rfl,b1⟩;go_wp2
  go_ret
  exact⟨_,rfl,⟨fun h=>(by rw[Hp.o]at h;cases h),fun _=>rfl⟩,b1⟩
 obtain⟨dr,r,c,ha,hr4,hc4⟩:=Mj hp;have Hp:=Z hp;have Hv:=Z hv;have aY:=Z aS;have lh:=Z dr;obtain⟨a,cap,rfl,-⟩:=hv;obtain⟨a2,cap2,rfl,-⟩:=aS;have Ha:=Z ha;have hr5:=ha.hr5;have hc5:=ha.hc5;clear hp dr ha;go_enter func142,ntmps142;go_wp2_with fail;refine(Xt _ _ m t r c _ Hv.o aY.o lh.o Ha.o hr4 hc4).mono ?_;rintro e w1 ⟨v1,W,rfl,hW,hWl,⟨g,wc,rfl,hB⟩,b1⟩;have HW:=Z hW;have gp:=La hr5 hc5 hW.1;have mS:=Z gp;have bX:=Z (It hWl gp);have lL:=Z (KJ W);have bT:=Z (fun k s=>L6 (W:=W) (k:=k) (s:=s));have cT:=CW (n:=(W.length:Int)) J;have HB:=Z hB;obtain⟨NW,hNW⟩:∃NW,NW=W.length:=⟨_,rfl⟩;rw[←hNW]at hWl cT lL⊢;have sL:=Z hNW;clear hW gp hNW hB;go_wp2_with fail;refine(Dx _ (Cc.small J J) _).mono ?_;rintro e w2 ⟨rfl,b2⟩;have nu:=b1.qaa b2 (A2 _);have fa:=Z (HB.o.pure b2);have bz:=fa.o.lt;obtain⟨F0,eS⟩:∃F0,F0=AQ (NW:Int):=⟨_,rfl⟩;rw[←eS]at lL cT⊢;clear eS;go_wp2;go_loopw [7,9,24] (fun s _ i wr=>∃k:Nat,k≤NW∧i=.int .i64 k∧s=.string (Ew W k)∧Hid (Below w2.heap.size w2 wr)) (fun _ _ i _=>NW-(intOf i).toNat);exact⟨0,A7 _,rfl,by rw[lL.o],Z (A6 _ _)⟩;obtain⟨k,hk,rfl,rfl,Hb⟩:=hrel;obtain⟨wi,rfl⟩:∃wi:World,wi=wr:=⟨_,rfl⟩;by_cases aF:k<NW
 ·obtain⟨sp,aO⟩:∃sp,W[k]? =some sp:=⟨_,A3 (by rw[←sL.o];exact aF)⟩;have cF:=fa.o.pure Hb.o;have c0:=cF.cells aO (j:=0) (u:=.int .i64 sp.1) rfl;have c1:=cF.cells aO (j:=1) (u:=.int .i64 sp.2.1) rfl;have c2:=cF.cells aO (j:=2) (u:=.int .i64 sp.2.2.1) rfl;have c3:=cF.cells aO (j:=3) (u:=.int .i64 sp.2.2.2) rfl;rw[AF]at c0;have gp:=mS.o sp (A4 aO);have aM:=bX.o k;have hz:=Od gp;have aG:=Z (bT.o k sp aO);have fO:=Z (Below.qab wi (.cells (G8 sp).toArray 65));obtain⟨h1,h2,h3,h4⟩:=gp;obtain⟨P,hP⟩:∃P,P=Ew W k:=⟨_,rfl⟩;rw[←hP]at aM aG⊢;have ix:GD sp.1 sp.2.1 sp.2.2.1 sp.2.2.2=OH sp:=rfl;have yw:=Z ix;have bQ:(P++⟨#[32]⟩:ByteArray).size≤41+100*k:=by
   have e2:(⟨#[32]⟩:ByteArray).size=1:=rfl;rw[AR,e2];omega
  clear aO hP ix cF;go_wp2_with fail;refine(RJ sp.1 sp.2.1 sp.2.2.1 sp.2.2.2 (Cc.small J J) (Cc.small J J) (Cc.small J J) (Cc.small J J) _).mono ?_;rintro e w3 ⟨rfl,b3⟩;rw[yw.o];obtain⟨S,hS⟩:∃S,S=OH sp:=⟨_,rfl⟩;rw[←hS]at hz aG⊢;have bM:=Z (show Ew W (k+1)=P++⟨#[32]⟩++S from by rw[aG.o,A1i]);have bN:=Z (Hb.o.qaa (fO.o.qaa b3 (A2 _)) (A2 _));clear hS c0 c1 c2 c3;go_wp2;go_roundw;exact⟨k+1,J,by go_num,by rw[bM.o],bN⟩;exact Jv
 ·obtain rfl:k=NW:=J;have js:=nu.qaa Hb.o (A2 _);go_wp2
  go_ret
  exact⟨_,rfl,⟨fun _=>⟨W,by rw[Ha.o.l1,Ha.o.l2];exact HW.o,by rw[←sL.o]⟩,fun h=>(by rw[Hp.o]at h;cases h)⟩,js⟩

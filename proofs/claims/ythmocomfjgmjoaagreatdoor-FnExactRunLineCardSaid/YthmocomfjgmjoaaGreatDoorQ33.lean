/- Base. -/
import Derived.Test.YthmocomfjgmjoaaGreatDoorQ16
set_option maxHeartbeats 4000000
set_option maxRecDepth 100000
namespace Go.Proofs.YthmocomfjgmjoaaGreatDoor
open Go.RowKit Go.Proofs.Tryz
variable {B:Nat}{b:Int}{left:U}{s:List Nat}{x:Nat}
def J0(left:U)(s:List Nat)(x:Nat)(b:Int):Prop:=(b=-1∧∀y,y<x→y∈s)∨∃B:Nat,b=B∧B<x∧B∉s∧∀y,y<x→y∉s→y=B∨kl left B y
theorem Yv(left:U)(s:List Nat):J0 left s 0 (-1):=.inl ⟨rfl,fun y h=>absurd h J⟩
theorem XQ(h:J0 left s x b)(hx:x∈s):J0 left s (x+1) b:=by
 rcases h with⟨h1,h2⟩|⟨B,rfl,h1,h2,h3⟩
 ·refine .inl ⟨h1,fun y hy=>?_⟩;by_cases e:y=x
  ·rw[e];exact hx
  ·exact h2 y J
 ·refine .inr ⟨B,rfl,J,h2,fun y hy hn=>?_⟩;by_cases e:y=x
  ·rw[e]at hn;exact absurd hx hn
  ·exact h3 y J hn
theorem VM(h:J0 left s x (-1))(hx:x∉s):J0 left s (x+1) x:=by
 rcases h with⟨-,h2⟩|⟨B,h1,-⟩
 ·refine .inr ⟨x,rfl,J,hx,fun y hy hn=>?_⟩;by_cases e:y=x
  ·exact .inl e
  ·exact absurd (h2 y J) hn
 ·omega
theorem Xm(h:J0 left s x B)(hx:x∉s)(hk:left.getD B 0<left.getD x 0):J0 left s (x+1) x:=by
 rcases h with⟨h1,-⟩|⟨B',e,h1,h2,h3⟩
 ·omega
 ·obtain rfl:B=B':=J;refine .inr ⟨x,rfl,J,hx,fun y hy hn=>?_⟩;by_cases e:y=x
  ·exact .inl e
  ·have hxB:kl left x B:=.inl hk;rcases h3 y J hn with rfl|h4
   ·exact .inr hxB
   ·exact .inr (A28 hxB h4)
theorem Xs(h:J0 left s x B)(hk:¬left.getD B 0<left.getD x 0):J0 left s (x+1) B:=by
 rcases h with⟨h1,-⟩|⟨B',e,h1,h2,h3⟩
 ·omega
 ·obtain rfl:B=B':=J;refine .inr ⟨B,rfl,J,h2,fun y hy hn=>?_⟩;by_cases e:y=x
  ·subst e;refine .inr ?_;unfold kl;omega
  ·exact h3 y J hn
theorem WH{c t:Nat}{P:List Nat}(hP:Ug left c P)(ht:t<c)(h:J0 left (P.take t) c b):∃B:Nat,b=B∧P[t]? =some B∧B∉P.take t:=by
 have qy:t<P.length:=by rw[hP.length];exact ht
 have jy:P[t]∉P.take t:=by
  intro hm;obtain⟨q,hq,e⟩:=List.mem_take_iff_getElem.mp hm;have:=List.pairwise_iff_getElem.mp hP.nodup q t J qy J;exact this e
 rcases h with⟨-,h2⟩|⟨B,rfl,h1,h2,h3⟩
 ·exact absurd (h2 P[t] (hP.lt (A3 qy))) jy
 ·exact⟨B,rfl,hP.next h1 h2 h3,h2⟩
def A3u(w:World)(row rest:U)(e:Ending)(w':World):Prop:=
 ∃v1 v2 M,e=.returned (.tuple #[v1,v2])∧w.heap.size≤M∧M≤w'.heap.size∧Ag 3 Ap (Iv w.heap.size M) w' v1 row∧Ag 3 Ap (Iv M w'.heap.size) w' v2 rest∧Below w.heap.size w w'
theorem A0Z(v:Value)(left:U)(N c:Nat)(w:World)(hv:Au w v left)(hc:left.length=c)(hN:N≤c)(hc1:1≤c)(hc5:c≤5)(fR:∀x∈left,-10≤x∧x≤10):
  Calls prog 186 #[.int .i64 N,v] w (A3u w (DH left N) (D7 left (DH left N))):=by
 obtain⟨P,hP⟩:∃P,P=Ly left c:=⟨_,rfl⟩;have qi:Hid (Ug left c P):=Z (by rw[hP];exact PI _ _);have da:=Z (show Jr c (P.take N)=DH left N from by unfold DH;rw[hc,hP]);have Hv:=Z hv;have yV:=Z fR;have HC:=Z hc;obtain⟨bl,off,cpl,he,eU,-⟩:=hv.qac J;rw[hc]at he;subst he;have qC:Hid (left.length≤5):=Z J;have uC:Hid (Au w (.slice (some ⟨bl,off,none⟩) c cpl) left):=Hv;clear hv fR hP hc Hv;have gU:([]:U).length+left.length≤1099511627776:=by have:=qC.o;simp;omega
 go_enter func186,ntmps186;go_wp2_with (first
  |(at_make;refine EJ _ rfl _ _ 32 rfl 3 underlying32 Bg rfl Jq (R:=Ap) 0 ⟨rfl,Cc.small Jq Jq⟩ A8 c rfl rfl J ?_;intro wo hown5 hbel5 hsz5;have Hszo:=Z hsz5;have eZ:=Z hown5;have nR:=Z hbel5;have Hu:=Z ((uC.o.keep hbel5).keep (Below.qab wo (.cells #[] 3)));have eP:=Z (BK wo 3 wo.heap.size A8);have Hz:=Z (show(wo.alloc (.cells #[] 3)).heap.size=wo.heap.size+1 from by simp);clear hsz5 hown5 hbel5)
  |(at_builtin;(refine DM rfl _ _ 32 rfl 3 underlying32 Bg rfl (Iv wo.heap.size (wo.alloc (.cells #[] 3)).heap.size) rfl rfl (by exact eP.o) (by exact Hu.o) gU ?_;intro v2 w2 hown2 honly2 _;have af:Below wo.heap.size wo w2:=(Below.qab wo (.cells #[] 3)).trans (AO.below honly2 (by rw[Hz.o];omega) (fun b hb=>(eP.o.qae b hb).1));have jv:=Z ((Ab A8).mono (S':=Iv wo.heap.size w2.heap.size) (fun b hb=>hb.elim (fun h=>⟨h.1,by have h1:=h.2;have h2:=honly2.size;rw[Hz.o]at h1 h2;omega⟩) (fun h=>⟨by have h1:=h.1;rw[Hz.o]at h1;omega,h.2⟩)) hown2);have fa:=Z af;clear hown2 honly2 af))
  |fail)
 rw[List.nil_append]at jv;obtain⟨R,capR,rfl,hR,hcapR,hRs,-⟩:=jv.o.qac (by rw[HC.o];omega);rw[HC.o]at jv hcapR⊢;obtain⟨D,hD⟩:∃D,D=w.heap.size:=⟨_,rfl⟩;have HD:=Z hD;have hDM:D<wo.heap.size:=by have:=Hszo.o;omega
 have hMw:wo.heap.size≤w2.heap.size:=fa.o.size;have pa:Hid (Ag 3 Ap (fun b=>b=D) w2 (.slice (some ⟨D,0,none⟩) c c) (Jr c (P.take 0))):=Z (by
  rw[List.take_zero,A0s];have h:=(Ab A8).same (Ac fa.o fun b (hb:b=w.heap.size)=>by omega) eZ.o;rw[hD];exact h)
 have mu:Hid (Ag 3 Ap (Iv wo.heap.size w2.heap.size) w2 (.slice (some ⟨R,0,none⟩) c capR) (D7 left (Jr c (P.take 0)))):=Z (by
  have e:=Ut left;rw[HC.o]at e;rw[List.take_zero,e];exact jv.o)
 have pd:Hid (Below w.heap.size w w2):=Z (nR.o.qaa fa.o (A2 _));rw[←hD];have hR1:=hR.1;have hR2:=hR.2;clear hD jv eZ eP Hu hR hRs nR;go_wp2;go_loopw [8,9,10,11] (fun i _ _ _ wr=>∃t:Nat,t≤N∧i=.int .i64 t∧Hid (Ag 3 Ap (fun b=>b=D) wr (.slice (some ⟨D,0,none⟩) c c) (Jr c (P.take t)))∧Hid (Ag 3 Ap (Iv wo.heap.size w2.heap.size) wr (.slice (some ⟨R,0,none⟩) c capR) (D7 left (Jr c (P.take t))))∧Hid (Below w.heap.size w wr)∧w2.heap.size≤wr.heap.size) (fun i _ _ _ _=>N-(intOf i).toNat);exact⟨0,A7 _,rfl,pa,mu,pd,A2 _⟩;clear pa mu pd;obtain⟨t,ht,rfl,HRow,HRest,HBel,yJ⟩:=hrel;by_cases aF:t<N
 ·go_wp2;go_loop [9,10,11,25] (fun b _ _ i=>∃(x:Nat)(z:Int),x≤c∧i=.int .i64 x∧b=.int .i64 z∧Hid (J0 left (P.take t) x z)) (fun _ _ _ i=>c-(intOf i).toNat);exact⟨0,-1,A7 _,rfl,rfl,Z (Yv _ _)⟩;obtain⟨x,z,hx,rfl,rfl,Hbest⟩:=hrel;by_cases hltx:x<c
  ·have it:wr.cell? ⟨D,x,none⟩=some (.int .i64 (if x∈P.take t then 1 else 0)):=by
    have h:=(HRow.o.qaf (k:=x) (x:=(Jr c (P.take t)).getD x 0) (BO 0 (by rw[ON];exact hltx))).1;rw[VB hltx]at h;exact h
   have fJ:left[x]? =some (left.getD x 0):=BO 0 (by rw[HC.o];exact hltx);have ah:=Au.at uC.o fJ;rw[←HBel.o.cell (p:=⟨bl,off+x,none⟩) eU]at ah;obtain⟨u,hu⟩:∃u,u=left.getD x 0:=⟨_,rfl⟩;rw[←hu]at ah;have Hu:=Z hu;clear hu fJ;by_cases hm:x∈P.take t
   ·rw[if_pos hm]at it;have Hn:=Z (XQ Hbest.o hm);clear hm;go_wp2
    go_round
    exact⟨x+1,z,J,by go_num,rfl,Hn⟩;exact Jv
   ·rw[if_neg hm]at it;by_cases hz:z=-1
    ·subst hz;have Hn:=Z (VM Hbest.o hm);clear hm;go_wp2
     go_round
     exact⟨x+1,x,J,by go_num,rfl,Hn⟩;exact Jv
    ·obtain⟨B,rfl,gv⟩:∃B:Nat,z=B∧B<x:=by
      rcases Hbest.o with⟨h1,-⟩|⟨B,h1,h2,-⟩
      ·exact absurd h1 hz
      ·exact⟨B,h1,h2⟩
     have pf:B<c:=J;have hcB:=Au.at uC.o (BO 0 (by rw[HC.o];exact pf):left[B]? =some (left.getD B 0));rw[←HBel.o.cell (p:=⟨bl,off+B,none⟩) eU]at hcB;obtain⟨q,hq⟩:∃q,q=left.getD B 0:=⟨_,rfl⟩;rw[←hq]at hcB;have pG:decide ((B:Int)<0)=false:=Jj;by_cases hk:q<u
     ·have Hn:=Z (Xm Hbest.o hm (by rw[←hq,←Hu.o];exact hk));have dM:decide (q<u)=true:=by simpa using hk
      clear hm hz hq;go_wp2
      go_round
      exact⟨x+1,x,J,by go_num,rfl,Hn⟩;exact Jv
     ·have Hn:=Z (Xs Hbest.o (by rw[←hq,←Hu.o];exact hk));have dM:decide (q<u)=false:=by simpa using hk
      clear hm hz hq;go_wp2
      go_round
      exact⟨x+1,B,J,by go_num,rfl,Hn⟩;exact Jv
  ·obtain rfl:x=c:=J;obtain⟨B,rfl,hPt,jy⟩:=WH qi.o J Hbest.o;have pf:B<x:=qi.o.lt hPt;obtain⟨y0,e1,e2⟩:=HRow.o.ints_at (k:=B) (by rw[ON];exact pf);have r1:=HRow.o.qak (k:=B) (by rw[ON];exact pf) (c:=1) (Cc.small Jq Jq);rw[A0d _ pf,←PJ hPt]at r1;have n1:AO (fun b=>b=D) wr (wr.setCell ⟨D,B,none⟩ (.int .i64 1)):=Fe wr D B _;have l1:=(Ab A8).same (n1.same (T:=Iv wo.heap.size w2.heap.size) (fun b hb e=>by have:=hb.1;have:b=D:=e;omega) (fun b hb=>by have:=hb.2;omega)) HRest.o;have hm:(D7 left (Jr x (P.take t)))[B]? =some ((D7 left (Jr x (P.take t))).getD B 0):=BO 0 (by rw[Kp,HC.o];exact pf);obtain⟨u,hu⟩:∃u,u=(D7 left (Jr x (P.take t))).getD B 0:=⟨_,rfl⟩;rw[←hu]at hm;have lE:-11≤u∧u≤10:=by
    have hl:=T7 (w:=left) (row:=Jr x (P.take t)) (a:=-10) (b:=10) yV.o (fun i=>Wp _ _ i);have:=hl u (A4 hm);omega
   have lH:=lE.1;have eO:=lE.2;obtain⟨e3,e4,-⟩:=l1.qaf hm;have l2:=l1.qak (k:=B) (by rw[Kp,HC.o];exact pf) (c:=u-1) (Cc.small J J);have el:(D7 left (Jr x (P.take t))).set B (u-1)=D7 left (Jr x (P.take (t+1))):=by
    have h2:=UA (w:=left) (b:=B) (s:=P.take t) (by rw[HC.o];exact pf) jy;rw[HC.o]at h2;rw[hu,PJ hPt];exact h2
   rw[el]at l2;have rZ:=Z l2;have vP:=Z ((Ab A8).same (fun b (hb:b=D)=>Below.heap_setCell (wr.setCell ⟨D,B,none⟩ (.int .i64 1)) ⟨R,B,none⟩ (.int .i64 (u-1)) b (by show b≠R;omega)) r1);have vQ:=Z ((HBel.o.setCell (p:=⟨D,B,none⟩) (by show w.heap.size≤D;rw[HD.o];exact A2 _) (.int .i64 1)).setCell (p:=⟨R,B,none⟩) (by show w.heap.size≤R;have:=HD.o;omega) (.int .i64 (u-1)));clear r1 n1 l1 l2 el hm hu lE hPt jy;go_wp2;go_roundw;exact⟨t+1,J,by go_num,vP,rZ,vQ,by rw[As,As];exact yJ⟩;exact Jv
 ·obtain rfl:t=N:=J;go_wp2
  go_ret2
  refine⟨_,_,wo.heap.size,rfl,by have:=HD.o;omega,J,?_,?_,HBel.o⟩
  ·rw[←da.o];exact(Ab A8).mono (fun b (hb:b=D)=>⟨by have:=HD.o;omega,J⟩) HRow.o
  ·rw[←da.o];exact(Ab A8).mono (fun b hb=>⟨hb.1,by have:=hb.2;omega⟩) HRest.o
theorem A0W:(Tryz.prog.info? 32).map (fun i=>(i.zero,i.size,i.bytes))=some (some (.slice none 0 0),1,24):=by kernel_rfl
theorem VW(v v2:Value)(rows cols:U)(w:World)(hv:Au w v rows)(aS:Au w v2 cols):Calls prog 125 #[v,v2] w (Nz w (DU rows cols)):=by
 have Hv:=Z hv;have aY:=Z aS;obtain⟨a1,cap1,rfl,-⟩:=hv;obtain⟨a2,cap2,rfl,-⟩:=aS;cases bK:BF rows cols
 ·have Hr:=Z (show DU rows cols=none from by unfold DU;rw[bK];rfl);have dk:=Z bK;clear bK;go_enter func125,ntmps125;go_wp2_with fail;refine(DB _ _ _ _ _ Hv.o aY.o).mono ?_;rintro e w2 ⟨rfl,b2⟩;rw[dk.o];go_wp2
  go_ret2
  exact⟨_,by rw[Hr.o];rfl,by rw[Hr.o];exact Ag.nil _ _ _ _,b2⟩
 obtain⟨hr1,hr5,hc1,hc5,eE,eL⟩:=RS bK;have Hr:=Z (show DU rows cols=some (N4 rows cols)from by unfold DU;rw[bK];rfl);have dk:=Z bK;have jb:=Z eE;have iK:=Z eL;clear bK eE eL;obtain⟨r,hr⟩:∃r,r=rows.length:=⟨_,rfl⟩;obtain⟨c,hc⟩:∃c,c=cols.length:=⟨_,rfl⟩;rw[←hr]at hr1 hr5 Hv;rw[←hc]at hc1 hc5 aY jb;rw[←hr,←hc];have HR:=Z hr;have HC:=Z hc;have gU:([]:U).length+cols.length≤1099511627776:=by rw[←hc];simp;omega
 clear hr hc;go_enter func125,ntmps125;go_wp2_with fail;refine(DB _ _ _ _ _ Hv.o aY.o).mono ?_;rintro e w1 ⟨rfl,b1⟩;rw[dk.o];obtain⟨wo,hwo⟩:∃wo,wo=w1.alloc (.cells #[] 32):=⟨_,rfl⟩;have b1o:Below w1.heap.size w1 wo:=by rw[hwo];exact Below.qab _ _
 have pg:Hid (Ag 32 (Ag 3 Ap) (Iv w1.heap.size wo.heap.size) wo (.slice (some ⟨w1.heap.size,0,none⟩) 0 0) []):=Z (by rw[hwo];exact BK w1 32 w1.heap.size (Ab A8));have nR:=Z (b1.qaa b1o (A2 _));have vR:=Z b1o;have dm:=Z b1;have Hu:=Z ((aY.o.keep nR.o).keep (Below.qab wo (.cells #[] 3)));have hzo:wo.heap.size=w1.heap.size+1:=by rw[hwo];simp
 have eP:Hid (Ag 3 Ap (Iv wo.heap.size (wo.alloc (.cells #[] 3)).heap.size) (wo.alloc (.cells #[] 3)) (.slice (some ⟨w1.heap.size+1,0,none⟩) 0 0) []):=Z (by rw[←hzo];exact BK wo 3 wo.heap.size A8);have Hz:=Z (show(wo.alloc (.cells #[] 3)).heap.size=wo.heap.size+1 from by simp);clear b1o b1 hzo;subst hwo;go_wp2_with (first
  |(at_builtin;(refine DM rfl _ _ 32 rfl 3 underlying32 Bg rfl (Iv (w1.alloc (.cells #[] 32)).heap.size ((w1.alloc (.cells #[] 32)).alloc (.cells #[] 3)).heap.size) rfl rfl (by exact eP.o) (by exact Hu.o) gU ?_;intro v2 w2 hown2 honly2 _;have af:Below (w1.alloc (.cells #[] 32)).heap.size (w1.alloc (.cells #[] 32)) w2:=(Below.qab (w1.alloc (.cells #[] 32)) (.cells #[] 3)).trans (AO.below honly2 (by rw[Hz.o];omega) (fun b hb=>(eP.o.qae b hb).1));have jv:=Z (hown2.ints);have fa:=Z af;clear hown2 honly2 af))
  |fail)
 rw[List.nil_append]at jv;have kN:Hid (Au w2 v2 (Ih rows cols 0)):=Z (by
  have:Ih rows cols 0=cols:=by cases rows<;>rfl
  rw[this];exact jv.o)
 have ph:Hid (Ag 32 (Ag 3 Ap) (Iv w1.heap.size w2.heap.size) w2 (.slice (some ⟨w1.heap.size,0,none⟩) 0 0) ((N4 rows cols).take 0)):=Z (by
  rw[List.take_zero];exact Ag.grow (Ab A8) pg.o (A2 _) fa.o)
 have pi:=Z (nR.o.qaa fa.o (A2 _));have fI:w1.heap.size≤w2.heap.size:=by have:=vR.o.size;have:=fa.o.size;omega
 have hw1:w.heap.size≤w1.heap.size:=dm.o.size;clear jv Hu eP Hz pg nR vR dm;obtain⟨s1,s2,s3,rfl⟩:∃a n c,v2=.slice a n c:=by obtain⟨a,cp,h,-⟩:=kN.o;exact⟨_,_,_,h⟩
 go_wp2;go_loopw [6,7,9,10,11,22] (fun vo vl _ _ _ i wr=>∃k:Nat,k≤r∧i=.int .i64 k∧Hid (Ag 32 (Ag 3 Ap) (Iv w1.heap.size wr.heap.size) wr vo ((N4 rows cols).take k))∧Hid (Au wr vl (Ih rows cols k))∧Hid (Below w.heap.size w wr)∧w1.heap.size≤wr.heap.size) (fun _ _ _ _ _ i _=>r-(intOf i).toNat);exact⟨0,A7 _,rfl,ph,kN,pi,fI⟩;clear ph kN pi fI;obtain⟨k,hk,rfl,HOut,HLeft,HBel,hB⟩:=hrel;by_cases aF:k<r
 ·have aD:rows[k]? =some (rows.getD k 0):=BO 0 (by rw[←HR.o];exact aF);have jn:=jb.o k;obtain⟨ba,off,cpr,he,hba,-⟩:=Hv.o.qac (by rw[←HR.o];omega);rw[←HR.o]at he;obtain⟨rfl,-⟩:a1=some ⟨ba,off,none⟩∧cap1=cpr:=by simpa using he
  have iF:=Au.at Hv.o aD;rw[←HBel.o.cell (p:=⟨ba,off+k,none⟩) hba]at iF;obtain⟨N,hN⟩:∃N:Nat,rows.getD k 0=N:=⟨(rows.getD k 0).toNat,J⟩;rw[hN]at iF jn aD;have hNc:N≤c:=J;have da:=Z aD;have dM:decide ((k:Int)<(r:Int))=true:=by simp;omega
  obtain⟨p1,p2,p3,rfl⟩:=HOut.o.shape;obtain⟨l1,l2,l3,rfl⟩:∃a n c,u7=.slice a n c:=by obtain⟨a,cp,h,-⟩:=HLeft.o;exact⟨_,_,_,h⟩
  have au:((N4 rows cols).take k).length<1099511627776:=by rw[At];omega
  clear aD hN he jn;go_wp2_with fail;refine(A0Z _ _ N c _ HLeft.o (by rw[RD];exact HC.o.symm) hNc hc1 hc5 (fun x hx=>by have:=WB rows cols k (a:=0) (b:=5) iK.o x hx;omega)).mono ?_;rintro e w5 ⟨va,vb,M,rfl,mG,hM2,oa,ob,b5⟩;obtain⟨q1,q2,q3,rfl⟩:=oa.shape;obtain⟨q4,q5,q6,rfl⟩:=ob.shape;have Hoa:=Z ((Ab A8).mono (S':=Iv wr.heap.size w5.heap.size) (fun b hb=>⟨hb.1,by have:=hb.2;omega⟩) oa);have Hob:=Z ob;have gd:=Z b5;have pj:=Z (Ag.keep (Ab A8) HOut.o b5 (A2 _));have py:=b5.size;clear oa ob b5;go_wp2_with (first
   |(at_builtin;(refine AH rfl _ _ 31 rfl (Ab A8) 32 underlying31 A0W rfl Jq w1.heap.size wr.heap.size hB py rfl rfl (by exact pj.o) (by exact Hoa.o) au ?_);intro v3 w6 hown6 hbel6 honly6)
   |fail)
  have pk:Hid (Ag 32 (Ag 3 Ap) (Iv w1.heap.size w6.heap.size) w6 v3 ((N4 rows cols).take (k+1))):=Z (by
   have e:(N4 rows cols).take (k+1)=(N4 rows cols).take k++[DH (Ih rows cols k) N]:=by
    rw[Ao,ZG da.o];simp
   rw[e];exact hown6)
  have r6:Hid (Au w6 (.slice q4 q5 q6) (Ih rows cols (k+1))):=Z (by
   have e:Ih rows cols (k+1)=D7 (Ih rows cols k) (DH (Ih rows cols k) N):=by
    rw[PE da.o,Int.toNat_natCast]
   rw[e];exact((Ab A8).same (honly6.same (T:=Iv M w5.heap.size) (fun b hb hc=>by have:=(pj.o.qae b hc).2;have:=hb.1;omega) (fun b hb=>hb.2)) Hob.o).ints)
  have vS:=Z ((HBel.o.qaa gd.o (A2 _)).trans (hbel6.mono hw1));have hB6:w1.heap.size≤w6.heap.size:=by have:=honly6.size;omega
  clear hown6 hbel6 honly6;obtain⟨p4,p5,p6,rfl⟩:=pk.o.shape;go_wp2;go_roundw;exact⟨k+1,J,by go_num,pk,r6,vS,hB6⟩;exact Jv
 ·obtain rfl:k=r:=J;have aU:=Z (show(N4 rows cols).take k=N4 rows cols from A9 (by rw[OJ,←HR.o];exact A2 _));obtain⟨p1,p2,p3,rfl⟩:=HOut.o.shape;go_wp2
  go_ret2
  refine⟨_,by rw[Hr.o];rfl,?_,HBel.o⟩;rw[Hr.o];show Ag _ _ _ _ _ (N4 rows cols);rw[←aU.o];exact(Ab (Ab A8)).mono (fun b hb=>⟨by have:=hb.1;omega,hb.2⟩) HOut.o

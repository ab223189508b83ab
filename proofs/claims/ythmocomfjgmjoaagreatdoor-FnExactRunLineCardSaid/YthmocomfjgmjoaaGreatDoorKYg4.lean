/- Base. -/
import Derived.Test.YthmocomfjgmjoaaGreatDoorQ28
set_option maxHeartbeats 16000000
set_option maxRecDepth 100000
namespace Go.Proofs.YthmocomfjgmjoaaGreatDoor
open Go.RowKit Go.Proofs.Tryz
inductive JA(k:BU)(s:ByteArray)(al:List ByteArray):ByteArray→BU×ByteArray→Prop where
 |uw1 (t:ByteArray) (hn:al.length=1) (hz:Bn s) (hx:al[0]? =some t):JA k s al ⟨#[115,119,105,116,99,104]⟩ (k,Bq)
 |uwn (hz:Bn s) (hm1:al.length≠1) (hm4:al.length≠4):JA k s al ⟨#[115,119,105,116,99,104]⟩ (k,Bq)
 |uw4 (hn:al.length=4) (hz:Bn s) (hbad:(BH al).length≠4):JA k s al ⟨#[115,119,105,116,99,104]⟩ (k,Bq)
 |uf1 (t:ByteArray) (hn:al.length=1) (hz:Bn s) (hx:al[0]? =some t):JA k s al ⟨#[102,108,105,112]⟩ (k,Bq)
 |ufn (hz:Bn s) (hm1:al.length≠1) (hm2:al.length≠2):JA k s al ⟨#[102,108,105,112]⟩ (k,Bq)
 |uf2 (hn:al.length=2) (hz:Bn s) (hbad:(BH al).length≠2):JA k s al ⟨#[102,108,105,112]⟩ (k,Bq)
 |ul1 (t:ByteArray) (hn:al.length=1) (hz:Bn s) (hx:al[0]? =some t):JA k s al ⟨#[108,105,110,101]⟩ (k,Bq)
 |uln (hz:Bn s) (hm1:al.length≠1) (hm2:al.length≠2):JA k s al ⟨#[108,105,110,101]⟩ (k,Bq)
 |ul2 (hn:al.length=2) (hz:Bn s) (hbad:(BH al).length≠2):JA k s al ⟨#[108,105,110,101]⟩ (k,Bq)
 |us1 (t:ByteArray) (hn:al.length=1) (hz:Bn s) (hx:al[0]? =some t):JA k s al ⟨#[115,117,109,115]⟩ (k,Bq)
 |usn (hz:Bn s) (hm1:al.length≠1) (hm2:al.length≠2):JA k s al ⟨#[115,117,109,115]⟩ (k,Bq)
 |us2 (ta tb:ByteArray) (hn:al.length=2) (hx:al[0]? =some ta) (hy:al[1]? =some tb) (hz:Bn s) (h1:C6 ta=false):JA k s al ⟨#[115,117,109,115]⟩ (k,Bq)
 |us3 (ta tb:ByteArray) (hn:al.length=2) (hx:al[0]? =some ta) (hy:al[1]? =some tb) (hz:Bn s) (h1:C6 ta=true) (h2:C6 tb=false):JA k s al ⟨#[115,117,109,115]⟩ (k,Bq)
theorem CD(a b c:Value)(k:BU)(s wd:ByteArray)(al:List ByteArray)(r:BU×ByteArray)(w:World)(h:BV w a b c k)(hs:BL k)(ht:Ck w)(aM:s.size≤1048576)(aJ:CA s=false)(aO:AM s 32=wd::al)(aZ:1≤al.length)(hc:JA k s al wd r):Calls prog 13 #[.agg #[a,b,c],.string s] w (Dd w r):=by
 obtain⟨n,hn⟩:∃n,al.length=n:=⟨_,rfl⟩;rw[hn]at aZ;obtain⟨⟨a1,a2,a3,rfl⟩,⟨b1,b2,b3,rfl⟩,⟨d1,d2,d3,rfl⟩⟩:=h.shape;have ap:=B9.keep (B9.new w #[.slice a1 a2 a3,.slice b1 b2 b3,.slice d1 d2 d3] 34) (Below.qab _ (.cells BS 34));have bu:Below w.heap.size w ((w.alloc (.cells #[.slice a1 a2 a3,.slice b1 b2 b3,.slice d1 d2 d3] 34)).alloc (.cells BS 34)):=((A6 _ _).alloc (A2 _) _).alloc Jj _;have HC:=Z (h.keep bu);have Hh:=Z h;have Hs:=Z hs;have Ht:=Z ht;have c0:=ap.cell 0;have c1:=ap.cell 1;have c2:=ap.cell 2;simp only[Av,Aw,AB]at c0 c1 c2;clear h hs bu ap ht;obtain⟨fZ,ee,aK⟩:=EC aJ;have ey:=Z (GN aO aM);have eG:=Z aO;have fm:=IR aO aM;rw[hn]at fm;have Hn:=Z hn;clear aJ aO hn;go_enter func13,ntmps13;go_wp2_with fail;refine(Co _ _ _ k _ HC.o Hs.o).mono ?_;rintro e w1 ⟨va,vb,vc,rfl,ho,y1⟩;obtain⟨⟨p1,p2,p3,rfl⟩,⟨q1,q2,q3,rfl⟩,⟨r1,r2,r3,rfl⟩⟩:=ho.rd.shape;have St:=Z (EF.start rfl Hh.o y1 ho);clear ho y1 c0 c1 c2;go_wp2_with fail;refine(Do _ 32 _ aM).mono ?_;rintro e w2 ⟨vw,rfl,ow,y2⟩;rw[eG.o]at ow;obtain⟨gw,cw,rfl,hgw,dt,-,-⟩:=ow.qac Jj;have hS:=Z (St.o.keep y2);have Hw:=Z ow.strs;have w0:=CX.at0 Hw.o (k:=0) rfl;have bz:gw<w2.heap.size:=hgw.2;have qW:w1.heap.size<w2.heap.size:=hS.o.ko.lt;have nS:w.heap.size+2≤w1.heap.size:=by have:=hS.o.hlo;have:=hS.o.hlb;omega
 rw[An,Hn.o]at dt;rw[An,Hn.o];clear ow y2 St;have hP:(if cw=1 then(some ⟨gw,0,none⟩:Option Addr)else some ⟨gw,1,none⟩)=some ⟨gw,1,none⟩:=if_neg J;have hT:=Z (Ht.o.keep hS.o.base);go_wp2;go_loopw [10,12,13,14,52] (fun v _ _ _ i wr=>∃j:Nat,j≤n∧i=.int .i64 j∧Ag 3 Ap (Iv w2.heap.size wr.heap.size) wr v (BH (al.take j))∧Below w2.heap.size w2 wr) (fun _ _ _ _ i _=>n-(intOf i).toNat);exact⟨0,A7 _,rfl,Ag.nil _ _ _ _,A6 _ _⟩;obtain⟨j,hj,rfl,aB,aA⟩:=hrel;obtain⟨wo,rfl⟩:∃wo:World,wo=wr:=⟨_,rfl⟩;have bD:=aA.size;by_cases aF:j<n
 ·obtain⟨q,hq⟩:∃q,al[j]? =some q:=⟨_,A3 (by rw[Hn.o];exact aF)⟩;have aW:=CX.at1 Hw.o hq;rw[←aA.cell (p:=⟨gw,1+j,none⟩) bz]at aW;have gT:=ey.o q (A4 hq);have aG:=Z (Jx hq);have au:(BH (al.take j)).length<1099511627776:=by
   have h1:=Li (al.take j);have h2:=E6 j al;omega
  obtain⟨m1,m2,m3,rfl⟩:=aB.shape;have aC:=Z aB;clear hq aB;go_wp2_with fail;refine(IS _ _ gT (hT.o.keep aA)).mono ?_;rintro e w3 ⟨rfl,b3⟩;have d7:=b3.size;cases hy:AX q
  ·have Hy:=Z hy;have dg:=aA.trans (b3.mono bD);have Hk:=Z (Ag.keep A8 aC.o b3 (A2 _));clear hy;go_wp2;go_roundw;exact⟨j+1,J,by go_num,by rw[aG.o,Hy.o];exact(Ab A8).mono (fun b hb=>⟨hb.1,by have:=hb.2;omega⟩) Hk.o,dg⟩;exact Jv
  ·have Hy:=Z hy;have hI:=(Ey hy).2;have eY:=aA.trans (b3.mono bD);clear hy;go_wp2_with (first|(at_builtin;(refine AH rfl _ _ 32 rfl A8 3 underlying32 Bg rfl Jq w2.heap.size wo.heap.size bD d7 rfl rfl (by exact Ag.keep A8 aC.o b3 (A2 _)) (by exact⟨rfl,hI⟩) au ?_);intro v4 w4 hown4 hbel4 _)|fail);have gA:=eY.trans hbel4;have ce:=Z hown4;clear hown4;go_wp2;go_roundw;exact⟨j+1,J,by go_num,by rw[aG.o,Hy.o];exact ce.o,gA⟩;exact Jv
 ·have iO:al.length≤j:=by rw[Hn.o];omega
  rw[A9 iO]at aB;have lO:=Z (hT.o.keep aA);replace hS:=Z (hS.o.keep aA);replace w0:=(aA.cell (p:=⟨gw,0,none⟩) bz).trans w0;obtain⟨c0,c1,c2⟩:=hS.o.kc.c3;obtain⟨o0,o1,o2⟩:=hS.o.ko.c3;obtain⟨x0,x1,x2,f0,f1,f2⟩:=hS.o.kr.x3;cases hc with
  |uw1 t hn hz hx=>
   have hN:n=1:=Hn.o.symm.trans hn;have cf:((n:Int)==1)=true:=by rw[hN];rfl
   have ct:((n:Int)==2)=false:=by rw[hN];rfl
   have gu:((n:Int)==4)=false:=by rw[hN];rfl
   have gD:0<n:=J;clear hn hN;obtain⟨cT,bL,bQ,fF,fs,fG,gW,gX,fc⟩:=hz;have fy:=ey.o t (A4 hx);have Hx:=Z hx;clear hx;obtain⟨m1,m2,m3,rfl⟩:=aB.shape;have hm2:m2=(BH al).length:=aB.ints.len;have lP:wo.cell? ⟨gw,1,none⟩=some (.string t):=(aA.cell (p:=⟨gw,1+0,none⟩) bz).trans (CX.at1 Hw.o Hx.o);clear aB;go_wp2_with fail;refine(D9 t _ fy).mono ?_;rintro e w3 ⟨⟨vi,rfl,oi,y3⟩,cR⟩;obtain⟨l1,l2,l3,rfl⟩:=oi.shape;clear oi cR;replace hS:=Z (hS.o.keep y3);replace w0:=(y3.cell (p:=⟨gw,0,none⟩) (by show gw<wo.heap.size;omega)).trans w0;clear c0 c1 c2 o0 o1 o2 x0 x1 x2 f0 f1 f2;obtain⟨c0,c1,c2⟩:=hS.o.kc.c3;obtain⟨o0,o1,o2⟩:=hS.o.ko.c3;obtain⟨x0,x1,x2,f0,f1,f2⟩:=hS.o.kr.x3;go_wp2;obtain⟨⟨e0,e1,e2⟩,aE⟩:=(hS.o.done).fin;exact Jz #[.agg #[.slice p1 p2 p3,.slice q1 q2 q3,.slice r1 r2 r3],.string Bq] (by simp[results,results13,go_sem,e0,e1,e2,Bq]) (aE _)
  |uwn hz hm1 hm4=>
   have cf:((n:Int)==1)=false:=Eg (m:=1) (fun e=>hm1 (Hn.o.trans e));have gu:((n:Int)==4)=false:=Eg (m:=4) (fun e=>hm4 (Hn.o.trans e));clear hm1 hm4;obtain⟨cT,bL,bQ,fF,fs,fG,gW,gX,fc⟩:=hz;obtain⟨m1,m2,m3,rfl⟩:=aB.shape;have hm2:m2=(BH al).length:=aB.ints.len;clear aB;go_wp2;obtain⟨⟨e0,e1,e2⟩,aE⟩:=(hS.o.done).fin;exact Jz #[.agg #[.slice p1 p2 p3,.slice q1 q2 q3,.slice r1 r2 r3],.string Bq] (by simp[results,results13,go_sem,e0,e1,e2,Bq]) (aE _)
  |uw4 hn hz hbad=>
   have hN:n=4:=Hn.o.symm.trans hn;have cf:((n:Int)==1)=false:=by rw[hN];rfl
   have ct:((n:Int)==2)=false:=by rw[hN];rfl
   have gu:((n:Int)==4)=true:=by rw[hN];rfl
   have gD:0<n:=J;have kU:1<n:=J;clear hn hN;obtain⟨cT,bL,bQ,fF,fs,fG,gW,gX,fc⟩:=hz;obtain⟨m1,m2,m3,rfl⟩:=aB.shape;have hm2:m2=(BH al).length:=aB.ints.len;have zv:((m2:Int)==4)=false:=by rw[hm2];simp;omega
   clear aB;go_wp2;obtain⟨⟨e0,e1,e2⟩,aE⟩:=(hS.o.done).fin;exact Jz #[.agg #[.slice p1 p2 p3,.slice q1 q2 q3,.slice r1 r2 r3],.string Bq] (by simp[results,results13,go_sem,e0,e1,e2,Bq]) (aE _)
  |uf1 t hn hz hx=>
   have hN:n=1:=Hn.o.symm.trans hn;have cf:((n:Int)==1)=true:=by rw[hN];rfl
   have ct:((n:Int)==2)=false:=by rw[hN];rfl
   have gu:((n:Int)==4)=false:=by rw[hN];rfl
   have gD:0<n:=J;clear hn hN;obtain⟨cT,bL,bQ,fF,fs,fG,gW,gX,fc⟩:=hz;have fy:=ey.o t (A4 hx);have Hx:=Z hx;clear hx;obtain⟨m1,m2,m3,rfl⟩:=aB.shape;have hm2:m2=(BH al).length:=aB.ints.len;have lP:wo.cell? ⟨gw,1,none⟩=some (.string t):=(aA.cell (p:=⟨gw,1+0,none⟩) bz).trans (CX.at1 Hw.o Hx.o);clear aB;go_wp2_with fail;refine(D9 t _ fy).mono ?_;rintro e w3 ⟨⟨vi,rfl,oi,y3⟩,cR⟩;obtain⟨l1,l2,l3,rfl⟩:=oi.shape;clear oi cR;replace hS:=Z (hS.o.keep y3);replace w0:=(y3.cell (p:=⟨gw,0,none⟩) (by show gw<wo.heap.size;omega)).trans w0;clear c0 c1 c2 o0 o1 o2 x0 x1 x2 f0 f1 f2;obtain⟨c0,c1,c2⟩:=hS.o.kc.c3;obtain⟨o0,o1,o2⟩:=hS.o.ko.c3;obtain⟨x0,x1,x2,f0,f1,f2⟩:=hS.o.kr.x3;go_wp2;obtain⟨⟨e0,e1,e2⟩,aE⟩:=(hS.o.done).fin;exact Jz #[.agg #[.slice p1 p2 p3,.slice q1 q2 q3,.slice r1 r2 r3],.string Bq] (by simp[results,results13,go_sem,e0,e1,e2,Bq]) (aE _)
  |ufn hz hm1 hm2=>
   have cf:((n:Int)==1)=false:=Eg (m:=1) (fun e=>hm1 (Hn.o.trans e));have ct:((n:Int)==2)=false:=Eg (m:=2) (fun e=>hm2 (Hn.o.trans e));clear hm1 hm2;obtain⟨cT,bL,bQ,fF,fs,fG,gW,gX,fc⟩:=hz;obtain⟨m1,m2,m3,rfl⟩:=aB.shape;have hm2:m2=(BH al).length:=aB.ints.len;clear aB;go_wp2;obtain⟨⟨e0,e1,e2⟩,aE⟩:=(hS.o.done).fin;exact Jz #[.agg #[.slice p1 p2 p3,.slice q1 q2 q3,.slice r1 r2 r3],.string Bq] (by simp[results,results13,go_sem,e0,e1,e2,Bq]) (aE _)
  |uf2 hn hz hbad=>
   have hN:n=2:=Hn.o.symm.trans hn;have cf:((n:Int)==1)=false:=by rw[hN];rfl
   have ct:((n:Int)==2)=true:=by rw[hN];rfl
   have gu:((n:Int)==4)=false:=by rw[hN];rfl
   have gD:0<n:=J;have kU:1<n:=J;clear hn hN;obtain⟨cT,bL,bQ,fF,fs,fG,gW,gX,fc⟩:=hz;obtain⟨m1,m2,m3,rfl⟩:=aB.shape;have hm2:m2=(BH al).length:=aB.ints.len;have zv:((m2:Int)==2)=false:=by rw[hm2];simp;omega
   clear aB;go_wp2;obtain⟨⟨e0,e1,e2⟩,aE⟩:=(hS.o.done).fin;exact Jz #[.agg #[.slice p1 p2 p3,.slice q1 q2 q3,.slice r1 r2 r3],.string Bq] (by simp[results,results13,go_sem,e0,e1,e2,Bq]) (aE _)
  |ul1 t hn hz hx=>
   have hN:n=1:=Hn.o.symm.trans hn;have cf:((n:Int)==1)=true:=by rw[hN];rfl
   have ct:((n:Int)==2)=false:=by rw[hN];rfl
   have gu:((n:Int)==4)=false:=by rw[hN];rfl
   have gD:0<n:=J;clear hn hN;obtain⟨cT,bL,bQ,fF,fs,fG,gW,gX,fc⟩:=hz;have fy:=ey.o t (A4 hx);have Hx:=Z hx;clear hx;obtain⟨m1,m2,m3,rfl⟩:=aB.shape;have hm2:m2=(BH al).length:=aB.ints.len;have lP:wo.cell? ⟨gw,1,none⟩=some (.string t):=(aA.cell (p:=⟨gw,1+0,none⟩) bz).trans (CX.at1 Hw.o Hx.o);clear aB;go_wp2_with fail;refine(D9 t _ fy).mono ?_;rintro e w3 ⟨⟨vi,rfl,oi,y3⟩,cR⟩;obtain⟨l1,l2,l3,rfl⟩:=oi.shape;clear oi cR;replace hS:=Z (hS.o.keep y3);replace w0:=(y3.cell (p:=⟨gw,0,none⟩) (by show gw<wo.heap.size;omega)).trans w0;clear c0 c1 c2 o0 o1 o2 x0 x1 x2 f0 f1 f2;obtain⟨c0,c1,c2⟩:=hS.o.kc.c3;obtain⟨o0,o1,o2⟩:=hS.o.ko.c3;obtain⟨x0,x1,x2,f0,f1,f2⟩:=hS.o.kr.x3;go_wp2;obtain⟨⟨e0,e1,e2⟩,aE⟩:=(hS.o.done).fin;exact Jz #[.agg #[.slice p1 p2 p3,.slice q1 q2 q3,.slice r1 r2 r3],.string Bq] (by simp[results,results13,go_sem,e0,e1,e2,Bq]) (aE _)
  |uln hz hm1 hm2=>
   have cf:((n:Int)==1)=false:=Eg (m:=1) (fun e=>hm1 (Hn.o.trans e));have ct:((n:Int)==2)=false:=Eg (m:=2) (fun e=>hm2 (Hn.o.trans e));clear hm1 hm2;obtain⟨cT,bL,bQ,fF,fs,fG,gW,gX,fc⟩:=hz;obtain⟨m1,m2,m3,rfl⟩:=aB.shape;have hm2:m2=(BH al).length:=aB.ints.len;clear aB;go_wp2;obtain⟨⟨e0,e1,e2⟩,aE⟩:=(hS.o.done).fin;exact Jz #[.agg #[.slice p1 p2 p3,.slice q1 q2 q3,.slice r1 r2 r3],.string Bq] (by simp[results,results13,go_sem,e0,e1,e2,Bq]) (aE _)
  |ul2 hn hz hbad=>
   have hN:n=2:=Hn.o.symm.trans hn;have cf:((n:Int)==1)=false:=by rw[hN];rfl
   have ct:((n:Int)==2)=true:=by rw[hN];rfl
   have gu:((n:Int)==4)=false:=by rw[hN];rfl
   have gD:0<n:=J;have kU:1<n:=J;clear hn hN;obtain⟨cT,bL,bQ,fF,fs,fG,gW,gX,fc⟩:=hz;obtain⟨m1,m2,m3,rfl⟩:=aB.shape;have hm2:m2=(BH al).length:=aB.ints.len;have zv:((m2:Int)==2)=false:=by rw[hm2];simp;omega
   clear aB;go_wp2;obtain⟨⟨e0,e1,e2⟩,aE⟩:=(hS.o.done).fin;exact Jz #[.agg #[.slice p1 p2 p3,.slice q1 q2 q3,.slice r1 r2 r3],.string Bq] (by simp[results,results13,go_sem,e0,e1,e2,Bq]) (aE _)
  |us1 t hn hz hx=>
   have hN:n=1:=Hn.o.symm.trans hn;have cf:((n:Int)==1)=true:=by rw[hN];rfl
   have ct:((n:Int)==2)=false:=by rw[hN];rfl
   have gu:((n:Int)==4)=false:=by rw[hN];rfl
   have gD:0<n:=J;clear hn hN;obtain⟨cT,bL,bQ,fF,fs,fG,gW,gX,fc⟩:=hz;have fy:=ey.o t (A4 hx);have Hx:=Z hx;clear hx;obtain⟨m1,m2,m3,rfl⟩:=aB.shape;have hm2:m2=(BH al).length:=aB.ints.len;have lP:wo.cell? ⟨gw,1,none⟩=some (.string t):=(aA.cell (p:=⟨gw,1+0,none⟩) bz).trans (CX.at1 Hw.o Hx.o);clear aB;go_wp2_with fail;refine(D9 t _ fy).mono ?_;rintro e w3 ⟨⟨vi,rfl,oi,y3⟩,cR⟩;obtain⟨l1,l2,l3,rfl⟩:=oi.shape;clear oi cR;replace hS:=Z (hS.o.keep y3);replace w0:=(y3.cell (p:=⟨gw,0,none⟩) (by show gw<wo.heap.size;omega)).trans w0;clear c0 c1 c2 o0 o1 o2 x0 x1 x2 f0 f1 f2;obtain⟨c0,c1,c2⟩:=hS.o.kc.c3;obtain⟨o0,o1,o2⟩:=hS.o.ko.c3;obtain⟨x0,x1,x2,f0,f1,f2⟩:=hS.o.kr.x3;go_wp2;obtain⟨⟨e0,e1,e2⟩,aE⟩:=(hS.o.done).fin;exact Jz #[.agg #[.slice p1 p2 p3,.slice q1 q2 q3,.slice r1 r2 r3],.string Bq] (by simp[results,results13,go_sem,e0,e1,e2,Bq]) (aE _)
  |usn hz hm1 hm2=>
   have cf:((n:Int)==1)=false:=Eg (m:=1) (fun e=>hm1 (Hn.o.trans e));have ct:((n:Int)==2)=false:=Eg (m:=2) (fun e=>hm2 (Hn.o.trans e));clear hm1 hm2;obtain⟨cT,bL,bQ,fF,fs,fG,gW,gX,fc⟩:=hz;obtain⟨m1,m2,m3,rfl⟩:=aB.shape;have hm2:m2=(BH al).length:=aB.ints.len;clear aB;go_wp2;obtain⟨⟨e0,e1,e2⟩,aE⟩:=(hS.o.done).fin;exact Jz #[.agg #[.slice p1 p2 p3,.slice q1 q2 q3,.slice r1 r2 r3],.string Bq] (by simp[results,results13,go_sem,e0,e1,e2,Bq]) (aE _)
  |us2 ta tb hn hx hy hz h1=>
   have hN:n=2:=Hn.o.symm.trans hn;have cf:((n:Int)==1)=false:=by rw[hN];rfl
   have ct:((n:Int)==2)=true:=by rw[hN];rfl
   have gu:((n:Int)==4)=false:=by rw[hN];rfl
   have gD:0<n:=J;have kU:1<n:=J;clear hn hN;obtain⟨cT,bL,bQ,fF,fs,fG,gW,gX,fc⟩:=hz;have qX:=ey.o ta (A4 hx);have qY:=ey.o tb (A4 hy);have Hx:=Z hx;have no:=Z hy;clear hx hy;have H1:=Z h1;clear h1;obtain⟨m1,m2,m3,rfl⟩:=aB.shape;have lP:wo.cell? ⟨gw,1,none⟩=some (.string ta):=(aA.cell (p:=⟨gw,1+0,none⟩) bz).trans (CX.at1 Hw.o Hx.o);have mF:wo.cell? ⟨gw,2,none⟩=some (.string tb):=(aA.cell (p:=⟨gw,1+1,none⟩) bz).trans (CX.at1 Hw.o no.o);clear aB;go_wp2_with fail;refine(G7 ta _ qX lO.o).mono ?_;rw[show Di wo ta=fun e w'=>∃v',e=.returned (.tuple #[v',.bool false])∧Ag 3 Ap (Iv wo.heap.size w'.heap.size) w' v' (AY ta)∧Below wo.heap.size wo w' from by funext e w';unfold Di;rw[H1.o]];rintro e w3 ⟨vr,rfl,orr,y3⟩;obtain⟨l1,l2,l3,rfl⟩:=orr.shape;have d7:wo.heap.size≤w3.heap.size:=y3.size;replace hS:=Z (hS.o.keep y3);have mY:=Z (lO.o.keep y3);replace mF:=(y3.cell (p:=⟨gw,2,none⟩) (by show gw<wo.heap.size;omega)).trans mF;replace w0:=(y3.cell (p:=⟨gw,0,none⟩) (by show gw<wo.heap.size;omega)).trans w0;clear orr c0 c1 c2 o0 o1 o2 x0 x1 x2 f0 f1 f2;go_wp2_with fail;refine(G7 tb _ qY mY.o).mono ?_;rintro e w5 ⟨vc,rfl,occ,y5⟩;obtain⟨n1,n2,n3,rfl⟩:=occ.shape;replace hS:=Z (hS.o.keep y5);replace w0:=(y5.cell (p:=⟨gw,0,none⟩) (by show gw<w3.heap.size;omega)).trans w0;clear occ;obtain⟨c0,c1,c2⟩:=hS.o.kc.c3;obtain⟨o0,o1,o2⟩:=hS.o.ko.c3;obtain⟨x0,x1,x2,f0,f1,f2⟩:=hS.o.kr.x3;go_wp2;obtain⟨⟨e0,e1,e2⟩,aE⟩:=(hS.o.done).fin;exact Jz #[.agg #[.slice p1 p2 p3,.slice q1 q2 q3,.slice r1 r2 r3],.string Bq] (by simp[results,results13,go_sem,e0,e1,e2,Bq]) (aE _)
  |us3 ta tb hn hx hy hz h1 h2=>
   have hN:n=2:=Hn.o.symm.trans hn;have cf:((n:Int)==1)=false:=by rw[hN];rfl
   have ct:((n:Int)==2)=true:=by rw[hN];rfl
   have gu:((n:Int)==4)=false:=by rw[hN];rfl
   have gD:0<n:=J;have kU:1<n:=J;clear hn hN;obtain⟨cT,bL,bQ,fF,fs,fG,gW,gX,fc⟩:=hz;have qX:=ey.o ta (A4 hx);have qY:=ey.o tb (A4 hy);have Hx:=Z hx;have no:=Z hy;clear hx hy;have H1:=Z h1;clear h1;have H2:=Z h2;clear h2;obtain⟨m1,m2,m3,rfl⟩:=aB.shape;have lP:wo.cell? ⟨gw,1,none⟩=some (.string ta):=(aA.cell (p:=⟨gw,1+0,none⟩) bz).trans (CX.at1 Hw.o Hx.o);have mF:wo.cell? ⟨gw,2,none⟩=some (.string tb):=(aA.cell (p:=⟨gw,1+1,none⟩) bz).trans (CX.at1 Hw.o no.o);clear aB;go_wp2_with fail;refine(G7 ta _ qX lO.o).mono ?_;rw[show Di wo ta=fun e w'=>∃v',e=.returned (.tuple #[v',.bool true])∧Ag 3 Ap (Iv wo.heap.size w'.heap.size) w' v' (AY ta)∧Below wo.heap.size wo w' from by funext e w';unfold Di;rw[H1.o]];rintro e w3 ⟨vr,rfl,orr,y3⟩;obtain⟨l1,l2,l3,rfl⟩:=orr.shape;have d7:wo.heap.size≤w3.heap.size:=y3.size;replace hS:=Z (hS.o.keep y3);have mY:=Z (lO.o.keep y3);replace mF:=(y3.cell (p:=⟨gw,2,none⟩) (by show gw<wo.heap.size;omega)).trans mF;replace w0:=(y3.cell (p:=⟨gw,0,none⟩) (by show gw<wo.heap.size;omega)).trans w0;clear orr c0 c1 c2 o0 o1 o2 x0 x1 x2 f0 f1 f2;go_wp2_with fail;refine(G7 tb _ qY mY.o).mono ?_;rw[show Di w3 tb=fun e w'=>∃v',e=.returned (.tuple #[v',.bool false])∧Ag 3 Ap (Iv w3.heap.size w'.heap.size) w' v' (AY tb)∧Below w3.heap.size w3 w' from by funext e w';unfold Di;rw[H2.o]];rintro e w5 ⟨vc,rfl,occ,y5⟩;obtain⟨n1,n2,n3,rfl⟩:=occ.shape;replace hS:=Z (hS.o.keep y5);replace w0:=(y5.cell (p:=⟨gw,0,none⟩) (by show gw<w3.heap.size;omega)).trans w0;clear occ;obtain⟨c0,c1,c2⟩:=hS.o.kc.c3;obtain⟨o0,o1,o2⟩:=hS.o.ko.c3;obtain⟨x0,x1,x2,f0,f1,f2⟩:=hS.o.kr.x3;go_wp2;obtain⟨⟨e0,e1,e2⟩,aE⟩:=(hS.o.done).fin;exact Jz #[.agg #[.slice p1 p2 p3,.slice q1 q2 q3,.slice r1 r2 r3],.string Bq] (by simp[results,results13,go_sem,e0,e1,e2,Bq]) (aE _)

/- RunLine of the program: lines that are no command: switch, flip, line, sums. -/
import Derived.Test.YthmocomfjgmjoaaGreatDoorQ28
set_option maxHeartbeats 16000000
set_option maxRecDepth 100000
namespace Go.Proofs.YthmocomfjgmjoaaGreatDoor
open Go.RowKit
inductive A74(k:B9)(s:ByteArray)(al:List ByteArray):ByteArray→B9×ByteArray→Prop where
 |uw1 (t:ByteArray) (hn:al.length=1) (hz:B8 s) (hx:al[0]? =some t):A74 k s al ⟨#[115,119,105,116,99,104]⟩ (k,AA)
 |uwn (hz:B8 s) (sE:al.length≠1) (hm4:al.length≠4):A74 k s al ⟨#[115,119,105,116,99,104]⟩ (k,AA)
 |uw4 (hn:al.length=4) (hz:B8 s) (cU:(Ao al).length≠4):A74 k s al ⟨#[115,119,105,116,99,104]⟩ (k,AA)
 |uf1 (t:ByteArray) (hn:al.length=1) (hz:B8 s) (hx:al[0]? =some t):A74 k s al ⟨#[102,108,105,112]⟩ (k,AA)
 |ufn (hz:B8 s) (sE:al.length≠1) (eE:al.length≠2):A74 k s al ⟨#[102,108,105,112]⟩ (k,AA)
 |uf2 (hn:al.length=2) (hz:B8 s) (cU:(Ao al).length≠2):A74 k s al ⟨#[102,108,105,112]⟩ (k,AA)
 |ul1 (t:ByteArray) (hn:al.length=1) (hz:B8 s) (hx:al[0]? =some t):A74 k s al ⟨#[108,105,110,101]⟩ (k,AA)
 |uln (hz:B8 s) (sE:al.length≠1) (eE:al.length≠2):A74 k s al ⟨#[108,105,110,101]⟩ (k,AA)
 |ul2 (hn:al.length=2) (hz:B8 s) (cU:(Ao al).length≠2):A74 k s al ⟨#[108,105,110,101]⟩ (k,AA)
 |us1 (t:ByteArray) (hn:al.length=1) (hz:B8 s) (hx:al[0]? =some t):A74 k s al ⟨#[115,117,109,115]⟩ (k,AA)
 |usn (hz:B8 s) (sE:al.length≠1) (eE:al.length≠2):A74 k s al ⟨#[115,117,109,115]⟩ (k,AA)
 |us2 (ta tb:ByteArray) (hn:al.length=2) (hx:al[0]? =some ta) (hy:al[1]? =some tb) (hz:B8 s) (h1:BJ ta=false):A74 k s al ⟨#[115,117,109,115]⟩ (k,AA)
 |us3 (ta tb:ByteArray) (hn:al.length=2) (hx:al[0]? =some ta) (hy:al[1]? =some tb) (hz:B8 s) (h1:BJ ta=true) (h2:BJ tb=false):A74 k s al ⟨#[115,117,109,115]⟩ (k,AA)
theorem A71(a b c:Value)(k:B9)(s wd:ByteArray)(al:List ByteArray)(r:B9×ByteArray)(w:World)(h:AV w a b c k)(hs:Az k)(ht:Bg w)(aI:s.size≤1048576)(aE:AH s=false)(aK:Ae s 32=wd::al)(bF:1≤al.length)(hc:A74 k s al wd r):Calls Tryz.prog 13 #[.agg #[a,b,c],.string s] w (AG w r):=by
 obtain⟨n,hn⟩:∃n,al.length=n:=⟨_,rfl⟩;rw[hn] at bF;obtain⟨⟨a1,a2,a3,rfl⟩,⟨b1,b2,b3,rfl⟩,⟨d1,d2,d3,rfl⟩⟩:=h.shape;have aN:=Aw.keep (Aw.new w #[.slice a1 a2 a3,.slice b1 b2 b3,.slice d1 d2 d3] 34) (Below.pureAlloc _ (.cells At 34));have aX:Below w.heap.size w ((w.alloc (.cells #[.slice a1 a2 a3,.slice b1 b2 b3,.slice d1 d2 d3] 34)).alloc (.cells At 34)):=((Below.refl _ _).alloc (Nat.le_refl _) _).alloc (by simp) _;have HC:=Z (h.keep aX);have Hh:=Z h;have Hs:=Z hs;have Ht:=Z ht;have c0:=aN.cell 0;have c1:=aN.cell 1;have c2:=aN.cell 2;simp only[List.getElem?_toArray,List.getElem?_cons_zero,List.getElem?_cons_succ] at c0 c1 c2;clear h hs aX aN ht;obtain⟨ce,cZ,aO⟩:=Av aE;have bX:=Z (AJ aK aI);have aq:=Z aK;have be:=AY aK aI;rw[hn] at be;have Hn:=Z hn;clear aE aK hn;go_enter Tryz.func13,Tryz.ntmps13;go_wp2_with (fail);refine(Ah _ _ _ k _ HC.o Hs.o).mono ?_;rintro e w1 ⟨va,vb,vc,rfl,ho,y1⟩;obtain⟨⟨p1,p2,p3,rfl⟩,⟨q1,q2,q3,rfl⟩,⟨r1,r2,r3,rfl⟩⟩:=ho.rd.shape;have St:=Z (BM.start rfl Hh.o y1 ho);clear ho y1 c0 c1 c2;go_wp2_with (fail);refine(Am _ 32 _ aI).mono ?_;rintro e w2 ⟨vw,rfl,ow,y2⟩;rw[aq.o] at ow;obtain⟨gw,cw,rfl,hgw,bD,-,-⟩:=ow.inv_ne (by simp);have hS:=Z (St.o.keep y2);have Hw:=Z ow.strs;have w0:=AM.at0 Hw.o (k:=0) rfl;have ai:gw<w2.heap.size:=hgw.2;have dt:w1.heap.size<w2.heap.size:=hS.o.ko.lt;have eO:w.heap.size+2≤w1.heap.size:=by have:=hS.o.hlo;have:=hS.o.hlb;omega
 rw[List.length_cons,Hn.o] at bD;rw[List.length_cons,Hn.o];clear ow y2 St;have hP:(if cw=1 then(some ⟨gw,0,none⟩:Option Addr) else some ⟨gw,1,none⟩)=some ⟨gw,1,none⟩:=if_neg (by omega);have hT:=Z (Ht.o.keep hS.o.base);go_wp2;go_loopw [10,12,13,14,52] (fun v _ _ _ i wr=>∃j:Nat,j≤n∧i=.int .i64 j∧A4 3 A7 (Iv w2.heap.size wr.heap.size) wr v (Ao (al.take j))∧Below w2.heap.size w2 wr) (fun _ _ _ _ i _=>n-(intOf i).toNat)
 case atStart=>exact⟨0,Nat.zero_le _,rfl,A4.nil _ _ _ _,Below.refl _ _⟩
 case round=>
  obtain⟨j,hj,rfl,aB,aA⟩:=hrel;obtain⟨wo,rfl⟩:∃wo:World,wo=wr:=⟨_,rfl⟩;have aV:=aA.size;by_cases aH:j<n
  ·obtain⟨q,hq⟩:∃q,al[j]? =some q:=⟨_,List.getElem?_eq_getElem (by rw[Hn.o];exact aH)⟩;have aQ:=AM.at1 Hw.o hq;rw[←aA.cell (p:=⟨gw,1+j,none⟩) ai] at aQ;have cD:=bX.o q (List.mem_of_getElem? hq);have aJ:=Z (AK hq);have ah:(Ao (al.take j)).length<1099511627776:=by
    have h1:=AW (al.take j);have h2:=List.length_take_le j al;omega
   obtain⟨m1,m2,m3,rfl⟩:=aB.shape;have aC:=Z aB;clear hq aB;go_wp2_with (fail);refine(AS _ _ cD (hT.o.keep aA)).mono ?_;rintro e w3 ⟨rfl,b3⟩;have bO:=b3.size;cases hy:Ai q
   ·have Hy:=Z hy;have bW:=aA.trans (b3.mono aV);have Hk:=Z (A4.keep A2 aC.o b3 (Nat.le_refl _));clear hy;go_wp2;go_roundw
    case rel=>exact⟨j+1,by omega,by go_num,by rw[aJ.o,Hy.o];exact(A3 A2).mono (fun b hb=>⟨hb.1,by have:=hb.2;omega⟩) Hk.o,bW⟩
    case measure=>simp[intOf];omega
   ·have Hy:=Z hy;have hI:=(AD hy).2;have bn:=aA.trans (b3.mono aV);clear hy;go_wp2_with (first|(at_builtin;(refine Aa rfl _ _ 32 rfl A2 3 Tryz.underlying32 As rfl (by decide) w2.heap.size wo.heap.size aV bO rfl rfl (by exact A4.keep A2 aC.o b3 (Nat.le_refl _)) (by exact⟨rfl,hI⟩) ah ?_);intro v4 w4 hown4 hbel4 _)|fail);have cG:=bn.trans hbel4;have aU:=Z hown4;clear hown4;go_wp2;go_roundw
    case rel=>exact⟨j+1,by omega,by go_num,by rw[aJ.o,Hy.o];exact aU.o,cG⟩
    case measure=>simp[intOf];omega
  ·have cK:al.length≤j:=by rw[Hn.o];omega
   rw[List.take_of_length_le cK] at aB;have eD:=Z (hT.o.keep aA);replace hS:=Z (hS.o.keep aA);replace w0:=(aA.cell (p:=⟨gw,0,none⟩) ai).trans w0;obtain⟨c0,c1,c2⟩:=hS.o.kc.c3;obtain⟨o0,o1,o2⟩:=hS.o.ko.c3;obtain⟨x0,x1,x2,f0,f1,f2⟩:=hS.o.kr.x3;cases hc with
   |uw1 t hn hz hx=>
    have hN:n=1:=Hn.o.symm.trans hn;have fE:((n:Int)==1)=true:=by rw[hN];rfl
    have fo:((n:Int)==2)=false:=by rw[hN];rfl
    have hq4:((n:Int)==4)=false:=by rw[hN];rfl
    have hi0:0<n:=by omega
    clear hn hN;obtain⟨dB,bZ,bT,eB,gH,fK,gz,gP,fq⟩:=hz;have ee:=bX.o t (List.mem_of_getElem? hx);have Hx:=Z hx;clear hx;obtain⟨m1,m2,m3,rfl⟩:=aB.shape;have eE:m2=(Ao al).length:=aB.ints.len;have lf:wo.cell? ⟨gw,1,none⟩=some (.string t):=(aA.cell (p:=⟨gw,1+0,none⟩) ai).trans (AM.at1 Hw.o Hx.o);clear aB;go_wp2_with (fail);refine(CX t _ ee).mono ?_;rintro e w3 ⟨⟨vi,rfl,oi,y3⟩,dA⟩;obtain⟨l1,l2,l3,rfl⟩:=oi.shape;clear oi dA;replace hS:=Z (hS.o.keep y3);replace w0:=(y3.cell (p:=⟨gw,0,none⟩) (by show gw<wo.heap.size;omega)).trans w0;clear c0 c1 c2 o0 o1 o2 x0 x1 x2 f0 f1 f2;obtain⟨c0,c1,c2⟩:=hS.o.kc.c3;obtain⟨o0,o1,o2⟩:=hS.o.ko.c3;obtain⟨x0,x1,x2,f0,f1,f2⟩:=hS.o.kr.x3;go_wp2;obtain⟨⟨e0,e1,e2⟩,aF⟩:=(hS.o.done).fin;exact bodyPost_ret (v:=.tuple #[.agg #[.slice p1 p2 p3,.slice q1 q2 q3,.slice r1 r2 r3],.string AA]) (by simp[results,Tryz.results13,go_sem,e0,e1,e2,AA]) rfl (aF _)
   |uwn hz sE hm4=>
    have fE:((n:Int)==1)=false:=FB (m:=1) (fun e=>sE (Hn.o.trans e));have hq4:((n:Int)==4)=false:=FB (m:=4) (fun e=>hm4 (Hn.o.trans e));clear sE hm4;obtain⟨dB,bZ,bT,eB,gH,fK,gz,gP,fq⟩:=hz;obtain⟨m1,m2,m3,rfl⟩:=aB.shape;have eE:m2=(Ao al).length:=aB.ints.len;clear aB;go_wp2;obtain⟨⟨e0,e1,e2⟩,aF⟩:=(hS.o.done).fin;exact bodyPost_ret (v:=.tuple #[.agg #[.slice p1 p2 p3,.slice q1 q2 q3,.slice r1 r2 r3],.string AA]) (by simp[results,Tryz.results13,go_sem,e0,e1,e2,AA]) rfl (aF _)
   |uw4 hn hz cU=>
    have hN:n=4:=Hn.o.symm.trans hn;have fE:((n:Int)==1)=false:=by rw[hN];rfl
    have fo:((n:Int)==2)=false:=by rw[hN];rfl
    have hq4:((n:Int)==4)=true:=by rw[hN];rfl
    have hi0:0<n:=by omega
    have wq:1<n:=by omega
    clear hn hN;obtain⟨dB,bZ,bT,eB,gH,fK,gz,gP,fq⟩:=hz;obtain⟨m1,m2,m3,rfl⟩:=aB.shape;have eE:m2=(Ao al).length:=aB.ints.len;have zW:((m2:Int)==4)=false:=by rw[eE];simp;omega
    clear aB;go_wp2;obtain⟨⟨e0,e1,e2⟩,aF⟩:=(hS.o.done).fin;exact bodyPost_ret (v:=.tuple #[.agg #[.slice p1 p2 p3,.slice q1 q2 q3,.slice r1 r2 r3],.string AA]) (by simp[results,Tryz.results13,go_sem,e0,e1,e2,AA]) rfl (aF _)
   |uf1 t hn hz hx=>
    have hN:n=1:=Hn.o.symm.trans hn;have fE:((n:Int)==1)=true:=by rw[hN];rfl
    have fo:((n:Int)==2)=false:=by rw[hN];rfl
    have hq4:((n:Int)==4)=false:=by rw[hN];rfl
    have hi0:0<n:=by omega
    clear hn hN;obtain⟨dB,bZ,bT,eB,gH,fK,gz,gP,fq⟩:=hz;have ee:=bX.o t (List.mem_of_getElem? hx);have Hx:=Z hx;clear hx;obtain⟨m1,m2,m3,rfl⟩:=aB.shape;have eE:m2=(Ao al).length:=aB.ints.len;have lf:wo.cell? ⟨gw,1,none⟩=some (.string t):=(aA.cell (p:=⟨gw,1+0,none⟩) ai).trans (AM.at1 Hw.o Hx.o);clear aB;go_wp2_with (fail);refine(CX t _ ee).mono ?_;rintro e w3 ⟨⟨vi,rfl,oi,y3⟩,dA⟩;obtain⟨l1,l2,l3,rfl⟩:=oi.shape;clear oi dA;replace hS:=Z (hS.o.keep y3);replace w0:=(y3.cell (p:=⟨gw,0,none⟩) (by show gw<wo.heap.size;omega)).trans w0;clear c0 c1 c2 o0 o1 o2 x0 x1 x2 f0 f1 f2;obtain⟨c0,c1,c2⟩:=hS.o.kc.c3;obtain⟨o0,o1,o2⟩:=hS.o.ko.c3;obtain⟨x0,x1,x2,f0,f1,f2⟩:=hS.o.kr.x3;go_wp2;obtain⟨⟨e0,e1,e2⟩,aF⟩:=(hS.o.done).fin;exact bodyPost_ret (v:=.tuple #[.agg #[.slice p1 p2 p3,.slice q1 q2 q3,.slice r1 r2 r3],.string AA]) (by simp[results,Tryz.results13,go_sem,e0,e1,e2,AA]) rfl (aF _)
   |ufn hz sE eE=>
    have fE:((n:Int)==1)=false:=FB (m:=1) (fun e=>sE (Hn.o.trans e));have fo:((n:Int)==2)=false:=FB (m:=2) (fun e=>eE (Hn.o.trans e));clear sE eE;obtain⟨dB,bZ,bT,eB,gH,fK,gz,gP,fq⟩:=hz;obtain⟨m1,m2,m3,rfl⟩:=aB.shape;have eE:m2=(Ao al).length:=aB.ints.len;clear aB;go_wp2;obtain⟨⟨e0,e1,e2⟩,aF⟩:=(hS.o.done).fin;exact bodyPost_ret (v:=.tuple #[.agg #[.slice p1 p2 p3,.slice q1 q2 q3,.slice r1 r2 r3],.string AA]) (by simp[results,Tryz.results13,go_sem,e0,e1,e2,AA]) rfl (aF _)
   |uf2 hn hz cU=>
    have hN:n=2:=Hn.o.symm.trans hn;have fE:((n:Int)==1)=false:=by rw[hN];rfl
    have fo:((n:Int)==2)=true:=by rw[hN];rfl
    have hq4:((n:Int)==4)=false:=by rw[hN];rfl
    have hi0:0<n:=by omega
    have wq:1<n:=by omega
    clear hn hN;obtain⟨dB,bZ,bT,eB,gH,fK,gz,gP,fq⟩:=hz;obtain⟨m1,m2,m3,rfl⟩:=aB.shape;have eE:m2=(Ao al).length:=aB.ints.len;have zW:((m2:Int)==2)=false:=by rw[eE];simp;omega
    clear aB;go_wp2;obtain⟨⟨e0,e1,e2⟩,aF⟩:=(hS.o.done).fin;exact bodyPost_ret (v:=.tuple #[.agg #[.slice p1 p2 p3,.slice q1 q2 q3,.slice r1 r2 r3],.string AA]) (by simp[results,Tryz.results13,go_sem,e0,e1,e2,AA]) rfl (aF _)
   |ul1 t hn hz hx=>
    have hN:n=1:=Hn.o.symm.trans hn;have fE:((n:Int)==1)=true:=by rw[hN];rfl
    have fo:((n:Int)==2)=false:=by rw[hN];rfl
    have hq4:((n:Int)==4)=false:=by rw[hN];rfl
    have hi0:0<n:=by omega
    clear hn hN;obtain⟨dB,bZ,bT,eB,gH,fK,gz,gP,fq⟩:=hz;have ee:=bX.o t (List.mem_of_getElem? hx);have Hx:=Z hx;clear hx;obtain⟨m1,m2,m3,rfl⟩:=aB.shape;have eE:m2=(Ao al).length:=aB.ints.len;have lf:wo.cell? ⟨gw,1,none⟩=some (.string t):=(aA.cell (p:=⟨gw,1+0,none⟩) ai).trans (AM.at1 Hw.o Hx.o);clear aB;go_wp2_with (fail);refine(CX t _ ee).mono ?_;rintro e w3 ⟨⟨vi,rfl,oi,y3⟩,dA⟩;obtain⟨l1,l2,l3,rfl⟩:=oi.shape;clear oi dA;replace hS:=Z (hS.o.keep y3);replace w0:=(y3.cell (p:=⟨gw,0,none⟩) (by show gw<wo.heap.size;omega)).trans w0;clear c0 c1 c2 o0 o1 o2 x0 x1 x2 f0 f1 f2;obtain⟨c0,c1,c2⟩:=hS.o.kc.c3;obtain⟨o0,o1,o2⟩:=hS.o.ko.c3;obtain⟨x0,x1,x2,f0,f1,f2⟩:=hS.o.kr.x3;go_wp2;obtain⟨⟨e0,e1,e2⟩,aF⟩:=(hS.o.done).fin;exact bodyPost_ret (v:=.tuple #[.agg #[.slice p1 p2 p3,.slice q1 q2 q3,.slice r1 r2 r3],.string AA]) (by simp[results,Tryz.results13,go_sem,e0,e1,e2,AA]) rfl (aF _)
   |uln hz sE eE=>
    have fE:((n:Int)==1)=false:=FB (m:=1) (fun e=>sE (Hn.o.trans e));have fo:((n:Int)==2)=false:=FB (m:=2) (fun e=>eE (Hn.o.trans e));clear sE eE;obtain⟨dB,bZ,bT,eB,gH,fK,gz,gP,fq⟩:=hz;obtain⟨m1,m2,m3,rfl⟩:=aB.shape;have eE:m2=(Ao al).length:=aB.ints.len;clear aB;go_wp2;obtain⟨⟨e0,e1,e2⟩,aF⟩:=(hS.o.done).fin;exact bodyPost_ret (v:=.tuple #[.agg #[.slice p1 p2 p3,.slice q1 q2 q3,.slice r1 r2 r3],.string AA]) (by simp[results,Tryz.results13,go_sem,e0,e1,e2,AA]) rfl (aF _)
   |ul2 hn hz cU=>
    have hN:n=2:=Hn.o.symm.trans hn;have fE:((n:Int)==1)=false:=by rw[hN];rfl
    have fo:((n:Int)==2)=true:=by rw[hN];rfl
    have hq4:((n:Int)==4)=false:=by rw[hN];rfl
    have hi0:0<n:=by omega
    have wq:1<n:=by omega
    clear hn hN;obtain⟨dB,bZ,bT,eB,gH,fK,gz,gP,fq⟩:=hz;obtain⟨m1,m2,m3,rfl⟩:=aB.shape;have eE:m2=(Ao al).length:=aB.ints.len;have zW:((m2:Int)==2)=false:=by rw[eE];simp;omega
    clear aB;go_wp2;obtain⟨⟨e0,e1,e2⟩,aF⟩:=(hS.o.done).fin;exact bodyPost_ret (v:=.tuple #[.agg #[.slice p1 p2 p3,.slice q1 q2 q3,.slice r1 r2 r3],.string AA]) (by simp[results,Tryz.results13,go_sem,e0,e1,e2,AA]) rfl (aF _)
   |us1 t hn hz hx=>
    have hN:n=1:=Hn.o.symm.trans hn;have fE:((n:Int)==1)=true:=by rw[hN];rfl
    have fo:((n:Int)==2)=false:=by rw[hN];rfl
    have hq4:((n:Int)==4)=false:=by rw[hN];rfl
    have hi0:0<n:=by omega
    clear hn hN;obtain⟨dB,bZ,bT,eB,gH,fK,gz,gP,fq⟩:=hz;have ee:=bX.o t (List.mem_of_getElem? hx);have Hx:=Z hx;clear hx;obtain⟨m1,m2,m3,rfl⟩:=aB.shape;have eE:m2=(Ao al).length:=aB.ints.len;have lf:wo.cell? ⟨gw,1,none⟩=some (.string t):=(aA.cell (p:=⟨gw,1+0,none⟩) ai).trans (AM.at1 Hw.o Hx.o);clear aB;go_wp2_with (fail);refine(CX t _ ee).mono ?_;rintro e w3 ⟨⟨vi,rfl,oi,y3⟩,dA⟩;obtain⟨l1,l2,l3,rfl⟩:=oi.shape;clear oi dA;replace hS:=Z (hS.o.keep y3);replace w0:=(y3.cell (p:=⟨gw,0,none⟩) (by show gw<wo.heap.size;omega)).trans w0;clear c0 c1 c2 o0 o1 o2 x0 x1 x2 f0 f1 f2;obtain⟨c0,c1,c2⟩:=hS.o.kc.c3;obtain⟨o0,o1,o2⟩:=hS.o.ko.c3;obtain⟨x0,x1,x2,f0,f1,f2⟩:=hS.o.kr.x3;go_wp2;obtain⟨⟨e0,e1,e2⟩,aF⟩:=(hS.o.done).fin;exact bodyPost_ret (v:=.tuple #[.agg #[.slice p1 p2 p3,.slice q1 q2 q3,.slice r1 r2 r3],.string AA]) (by simp[results,Tryz.results13,go_sem,e0,e1,e2,AA]) rfl (aF _)
   |usn hz sE eE=>
    have fE:((n:Int)==1)=false:=FB (m:=1) (fun e=>sE (Hn.o.trans e));have fo:((n:Int)==2)=false:=FB (m:=2) (fun e=>eE (Hn.o.trans e));clear sE eE;obtain⟨dB,bZ,bT,eB,gH,fK,gz,gP,fq⟩:=hz;obtain⟨m1,m2,m3,rfl⟩:=aB.shape;have eE:m2=(Ao al).length:=aB.ints.len;clear aB;go_wp2;obtain⟨⟨e0,e1,e2⟩,aF⟩:=(hS.o.done).fin;exact bodyPost_ret (v:=.tuple #[.agg #[.slice p1 p2 p3,.slice q1 q2 q3,.slice r1 r2 r3],.string AA]) (by simp[results,Tryz.results13,go_sem,e0,e1,e2,AA]) rfl (aF _)
   |us2 ta tb hn hx hy hz h1=>
    have hN:n=2:=Hn.o.symm.trans hn;have fE:((n:Int)==1)=false:=by rw[hN];rfl
    have fo:((n:Int)==2)=true:=by rw[hN];rfl
    have hq4:((n:Int)==4)=false:=by rw[hN];rfl
    have hi0:0<n:=by omega
    have wq:1<n:=by omega
    clear hn hN;obtain⟨dB,bZ,bT,eB,gH,fK,gz,gP,fq⟩:=hz;have rF:=bX.o ta (List.mem_of_getElem? hx);have rG:=bX.o tb (List.mem_of_getElem? hy);have Hx:=Z hx;have oU:=Z hy;clear hx hy;have H1:=Z h1;clear h1;obtain⟨m1,m2,m3,rfl⟩:=aB.shape;have lf:wo.cell? ⟨gw,1,none⟩=some (.string ta):=(aA.cell (p:=⟨gw,1+0,none⟩) ai).trans (AM.at1 Hw.o Hx.o);have jJ:wo.cell? ⟨gw,2,none⟩=some (.string tb):=(aA.cell (p:=⟨gw,1+1,none⟩) ai).trans (AM.at1 Hw.o oU.o);clear aB;go_wp2_with (fail);refine(FG ta _ rF eD.o).mono ?_;rw[show C3 wo ta=fun e w'=>∃v',e=.returned (.tuple #[v',.bool false])∧A4 3 A7 (Iv wo.heap.size w'.heap.size) w' v' (AB ta)∧Below wo.heap.size wo w' from by funext e w';unfold C3;rw[H1.o]];rintro e w3 ⟨vr,rfl,orr,y3⟩;obtain⟨l1,l2,l3,rfl⟩:=orr.shape;have bO:wo.heap.size≤w3.heap.size:=y3.size;replace hS:=Z (hS.o.keep y3);have mo:=Z (eD.o.keep y3);replace jJ:=(y3.cell (p:=⟨gw,2,none⟩) (by show gw<wo.heap.size;omega)).trans jJ;replace w0:=(y3.cell (p:=⟨gw,0,none⟩) (by show gw<wo.heap.size;omega)).trans w0;clear orr c0 c1 c2 o0 o1 o2 x0 x1 x2 f0 f1 f2;go_wp2_with (fail);refine(FG tb _ rG mo.o).mono ?_;rintro e w5 ⟨vc,rfl,occ,y5⟩;obtain⟨n1,n2,n3,rfl⟩:=occ.shape;replace hS:=Z (hS.o.keep y5);replace w0:=(y5.cell (p:=⟨gw,0,none⟩) (by show gw<w3.heap.size;omega)).trans w0;clear occ;obtain⟨c0,c1,c2⟩:=hS.o.kc.c3;obtain⟨o0,o1,o2⟩:=hS.o.ko.c3;obtain⟨x0,x1,x2,f0,f1,f2⟩:=hS.o.kr.x3;go_wp2;obtain⟨⟨e0,e1,e2⟩,aF⟩:=(hS.o.done).fin;exact bodyPost_ret (v:=.tuple #[.agg #[.slice p1 p2 p3,.slice q1 q2 q3,.slice r1 r2 r3],.string AA]) (by simp[results,Tryz.results13,go_sem,e0,e1,e2,AA]) rfl (aF _)
   |us3 ta tb hn hx hy hz h1 h2=>
    have hN:n=2:=Hn.o.symm.trans hn;have fE:((n:Int)==1)=false:=by rw[hN];rfl
    have fo:((n:Int)==2)=true:=by rw[hN];rfl
    have hq4:((n:Int)==4)=false:=by rw[hN];rfl
    have hi0:0<n:=by omega
    have wq:1<n:=by omega
    clear hn hN;obtain⟨dB,bZ,bT,eB,gH,fK,gz,gP,fq⟩:=hz;have rF:=bX.o ta (List.mem_of_getElem? hx);have rG:=bX.o tb (List.mem_of_getElem? hy);have Hx:=Z hx;have oU:=Z hy;clear hx hy;have H1:=Z h1;clear h1;have H2:=Z h2;clear h2;obtain⟨m1,m2,m3,rfl⟩:=aB.shape;have lf:wo.cell? ⟨gw,1,none⟩=some (.string ta):=(aA.cell (p:=⟨gw,1+0,none⟩) ai).trans (AM.at1 Hw.o Hx.o);have jJ:wo.cell? ⟨gw,2,none⟩=some (.string tb):=(aA.cell (p:=⟨gw,1+1,none⟩) ai).trans (AM.at1 Hw.o oU.o);clear aB;go_wp2_with (fail);refine(FG ta _ rF eD.o).mono ?_;rw[show C3 wo ta=fun e w'=>∃v',e=.returned (.tuple #[v',.bool true])∧A4 3 A7 (Iv wo.heap.size w'.heap.size) w' v' (AB ta)∧Below wo.heap.size wo w' from by funext e w';unfold C3;rw[H1.o]];rintro e w3 ⟨vr,rfl,orr,y3⟩;obtain⟨l1,l2,l3,rfl⟩:=orr.shape;have bO:wo.heap.size≤w3.heap.size:=y3.size;replace hS:=Z (hS.o.keep y3);have mo:=Z (eD.o.keep y3);replace jJ:=(y3.cell (p:=⟨gw,2,none⟩) (by show gw<wo.heap.size;omega)).trans jJ;replace w0:=(y3.cell (p:=⟨gw,0,none⟩) (by show gw<wo.heap.size;omega)).trans w0;clear orr c0 c1 c2 o0 o1 o2 x0 x1 x2 f0 f1 f2;go_wp2_with (fail);refine(FG tb _ rG mo.o).mono ?_;rw[show C3 w3 tb=fun e w'=>∃v',e=.returned (.tuple #[v',.bool false])∧A4 3 A7 (Iv w3.heap.size w'.heap.size) w' v' (AB tb)∧Below w3.heap.size w3 w' from by funext e w';unfold C3;rw[H2.o]];rintro e w5 ⟨vc,rfl,occ,y5⟩;obtain⟨n1,n2,n3,rfl⟩:=occ.shape;replace hS:=Z (hS.o.keep y5);replace w0:=(y5.cell (p:=⟨gw,0,none⟩) (by show gw<w3.heap.size;omega)).trans w0;clear occ;obtain⟨c0,c1,c2⟩:=hS.o.kc.c3;obtain⟨o0,o1,o2⟩:=hS.o.ko.c3;obtain⟨x0,x1,x2,f0,f1,f2⟩:=hS.o.kr.x3;go_wp2;obtain⟨⟨e0,e1,e2⟩,aF⟩:=(hS.o.done).fin;exact bodyPost_ret (v:=.tuple #[.agg #[.slice p1 p2 p3,.slice q1 q2 q3,.slice r1 r2 r3],.string AA]) (by simp[results,Tryz.results13,go_sem,e0,e1,e2,AA]) rfl (aF _)

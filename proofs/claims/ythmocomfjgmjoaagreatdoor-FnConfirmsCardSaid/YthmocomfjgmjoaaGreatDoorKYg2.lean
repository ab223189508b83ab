/- RunLine of the program: switch, flip, line. -/
import Derived.Test.YthmocomfjgmjoaaGreatDoorQ28
set_option maxHeartbeats 16000000
set_option maxRecDepth 100000
namespace Go.Proofs.YthmocomfjgmjoaaGreatDoor
open Go.RowKit
inductive A77(k:B9)(s:ByteArray)(al:List ByteArray):ByteArray→B9×ByteArray→Prop where
 |switch (n0 n1 n2 n3:Int) (hn:al.length=4) (d6:Ao al=[n0,n1,n2,n3]):A77 k s al ⟨#[115,119,105,116,99,104]⟩ (Ff k (IT k.img n0 n1 n2 n3))
 |flip (n0 n1:Int) (hn:al.length=2) (d6:Ao al=[n0,n1]):A77 k s al ⟨#[102,108,105,112]⟩ (Ff k (Lg k.img n0 n1))
 |line0 (n0 n1:Int) (hn:al.length=2) (d6:Ao al=[n0,n1]) (db:BA k.img n0 n1=[]):A77 k s al ⟨#[108,105,110,101]⟩ (k,BZ)
 |line1 (n0 n1:Int) (hn:al.length=2) (d6:Ao al=[n0,n1]) (db:BA k.img n0 n1≠[]):A77 k s al ⟨#[108,105,110,101]⟩ (k,Aj (BA k.img n0 n1))
theorem A73(a b c:Value)(k:B9)(s wd:ByteArray)(al:List ByteArray)(r:B9×ByteArray)(w:World)(h:AV w a b c k)(hs:Az k)(ht:Bg w)(aI:s.size≤1048576)(aE:AH s=false)(aK:Ae s 32=wd::al)(bF:1≤al.length)(hc:A77 k s al wd r):Calls Tryz.prog 13 #[.agg #[a,b,c],.string s] w (AG w r):=by
 obtain⟨n,hn⟩:∃n,al.length=n:=⟨_,rfl⟩;rw[hn] at bF;obtain⟨⟨a1,a2,a3,rfl⟩,⟨b1,b2,b3,rfl⟩,⟨d1,d2,d3,rfl⟩⟩:=h.shape;have aN:=Aw.keep (Aw.new w #[.slice a1 a2 a3,.slice b1 b2 b3,.slice d1 d2 d3] 34) (Below.pureAlloc _ (.cells At 34));have aX:Below w.heap.size w ((w.alloc (.cells #[.slice a1 a2 a3,.slice b1 b2 b3,.slice d1 d2 d3] 34)).alloc (.cells At 34)):=((Below.refl _ _).alloc (Nat.le_refl _) _).alloc (by simp) _;have HC:=Z (h.keep aX);have Hh:=Z h;have Hs:=Z hs;have Ht:=Z ht;have c0:=aN.cell 0;have c1:=aN.cell 1;have c2:=aN.cell 2;simp only[List.getElem?_toArray,List.getElem?_cons_zero,List.getElem?_cons_succ] at c0 c1 c2;clear h hs aX aN ht;obtain⟨ce,cZ,aO⟩:=Av aE;have bX:=Z (AJ aK aI);have aq:=Z aK;have be:=AY aK aI;rw[hn] at be;have Hn:=Z hn;clear aE aK hn;go_enter Tryz.func13,Tryz.ntmps13;go_wp2_with (fail);refine(Ah _ _ _ k _ HC.o Hs.o).mono ?_;rintro e w1 ⟨va,vb,vc,rfl,ho,y1⟩;obtain⟨⟨p1,p2,p3,rfl⟩,⟨q1,q2,q3,rfl⟩,⟨r1,r2,r3,rfl⟩⟩:=ho.rd.shape;have St:=Z (BM.start rfl Hh.o y1 ho);clear ho y1 c0 c1 c2;go_wp2_with (fail);refine(Am _ 32 _ aI).mono ?_;rintro e w2 ⟨vw,rfl,ow,y2⟩;rw[aq.o] at ow;obtain⟨gw,cw,rfl,hgw,bD,-,-⟩:=ow.inv_ne (by simp);have hS:=Z (St.o.keep y2);have Hw:=Z ow.strs;have w0:=AM.at0 Hw.o (k:=0) rfl;have ai:gw<w2.heap.size:=hgw.2;have dt:w1.heap.size<w2.heap.size:=hS.o.ko.lt;have eO:w.heap.size+2≤w1.heap.size:=by have:=hS.o.hlo;have:=hS.o.hlb;omega
 rw[List.length_cons,Hn.o] at bD;rw[List.length_cons,Hn.o];clear ow y2 St;have hP:(if cw=1 then(some ⟨gw,0,none⟩:Option Addr) else some ⟨gw,1,none⟩)=some ⟨gw,1,none⟩:=if_neg (by omega);have hT:=Z (Ht.o.keep hS.o.base);go_wp2;go_loopw [10,12,13,14,52] (fun v _ _ _ i wr=>∃j:Nat,j≤n∧i=.int .i64 j∧A4 3 A7 (Iv w2.heap.size wr.heap.size) wr v (Ao (al.take j))∧Below w2.heap.size w2 wr) (fun _ _ _ _ i _=>n-(intOf i).toNat)
 case atStart=>exact⟨0,Nat.zero_le _,rfl,A4.nil _ _ _ _,Below.refl _ _⟩
 case round=>
  obtain⟨j,hj,rfl,aB,aA⟩:=hrel;obtain⟨wo,rfl⟩:∃wo:World,wo=wr:=⟨_,rfl⟩;have aV:=aA.size;by_cases aH:j<n
  ·obtain⟨q,hq⟩:∃q,al[j]? =some q:=⟨_,List.getElem?_eq_getElem (by rw[Hn.o];exact aH)⟩;have aQ:=AM.at1 Hw.o hq;rw[←aA.cell (p:=⟨gw,1+j,none⟩) ai] at aQ;have cD:=bX.o q (List.mem_of_getElem? hq);have aJ:=Z (AK hq);have ah:(Ao (al.take j)).length<1099511627776:=by
    have h1:=AW (al.take j);have h2:=List.length_take_le j al;omega
   obtain⟨m1,m2,m3,rfl⟩:=aB.shape;have aC:=Z aB;clear hq aB;go_wp2_with (fail);refine(AS _ _ cD (hT.o.keep aA)).mono ?_;rintro e w3 ⟨rfl,b3⟩;have bO:=b3.size;cases hy:Ai q
   ·have Hy:=Z hy;have bW:=aA.trans (b3.mono aV);have Hk:=Z (A4.keep A2 aC.o b3 (Nat.le_refl _));clear hy;go_wp2;go_roundw
    case rel=>exact⟨j+1,by omega,by go_num,by rw[aJ.o,Hy.o];exact(A3 A2).mono (fun b hb=>⟨hb.1,by have:=hb.2;omega⟩) Hk.o,bW⟩
    case measure=>simp[intOf];omega
   ·have Hy:=Z hy;have hI:=(AD hy).2;have bn:=aA.trans (b3.mono aV);clear hy;go_wp2_with (first|(at_builtin;(refine Aa rfl _ _ 32 rfl A2 3 Tryz.underlying32 As rfl (by decide) w2.heap.size wo.heap.size aV bO rfl rfl (by exact A4.keep A2 aC.o b3 (Nat.le_refl _)) (by exact⟨rfl,hI⟩) ah ?_);intro v4 w4 hown4 hbel4 _)|fail);have cG:=bn.trans hbel4;have aU:=Z hown4;clear hown4;go_wp2;go_roundw
    case rel=>exact⟨j+1,by omega,by go_num,by rw[aJ.o,Hy.o];exact aU.o,cG⟩
    case measure=>simp[intOf];omega
  ·have cK:al.length≤j:=by rw[Hn.o];omega
   rw[List.take_of_length_le cK] at aB;have eD:=Z (hT.o.keep aA);replace hS:=Z (hS.o.keep aA);replace w0:=(aA.cell (p:=⟨gw,0,none⟩) ai).trans w0;obtain⟨c0,c1,c2⟩:=hS.o.kc.c3;obtain⟨o0,o1,o2⟩:=hS.o.ko.c3;obtain⟨x0,x1,x2,f0,f1,f2⟩:=hS.o.kr.x3;cases hc with
   |switch n0 n1 n2 n3 hn d6=>
    have hN:n=4:=Hn.o.symm.trans hn;have fE:((n:Int)==1)=false:=by rw[hN];rfl
    have fo:((n:Int)==2)=false:=by rw[hN];rfl
    have hq4:((n:Int)==4)=true:=by rw[hN];rfl
    have hi0:0<n:=by omega
    have wq:1<n:=by omega
    clear hn hN;have jw:=Z d6;clear d6;rw[jw.o] at aB;obtain⟨gm,cm,hv,dm,e9,-,-⟩:=aB.inv_ne (by simp);replace hv:_=Value.slice (some ⟨gm,0,none⟩) 4 cm:=hv;subst hv;replace e9:4≤cm:=e9;have jP:=aB.ints;have i0:wo.cell? ⟨gm,0,none⟩=some (.int .i64 n0):=Ab.at0 jP (k:=0) rfl;have i1:wo.cell? ⟨gm,1,none⟩=some (.int .i64 n1):=Ab.at0 jP (k:=1) rfl;have i2:wo.cell? ⟨gm,2,none⟩=some (.int .i64 n2):=Ab.at0 jP (k:=2) rfl;have i3:wo.cell? ⟨gm,3,none⟩=some (.int .i64 n3):=Ab.at0 jP (k:=3) rfl;have qY:=dm.1;have fb:(⟨gm,0,none⟩:Addr).block≠w.heap.size+1:=by show gm≠w.heap.size+1;omega
    have qO:¬gm=w1.heap.size:=by omega
    have fC:=Z aB;clear aB jP;have tL:w1.heap.size<wo.drew.heap.size:=by show w1.heap.size<wo.heap.size;omega
    have hC:=Z hS.o.kc;have iC:(⟨w.heap.size,0,none⟩:Addr).block≠w.heap.size+1:=by show w.heap.size≠w.heap.size+1;omega
    have iD:¬w.heap.size=w1.heap.size:=by omega
    go_wp2_with (fail)
    go_region_held3 (fun w'=>w'.cell? ⟨w.heap.size,0,none⟩=some (.slice a1 a2 a3)∧w'.cell? ⟨gm,0,none⟩=some (.int .i64 n0)∧w'.cell? ⟨gm,1,none⟩=some (.int .i64 n1)∧w'.cell? ⟨gm,2,none⟩=some (.int .i64 n2)∧w'.cell? ⟨gm,3,none⟩=some (.int .i64 n3)) (first|exact⟨c0,i0,i1,i2,i3⟩|exact⟨(Dc _ _ _ _ _ iC).trans c0,(Dc _ _ _ _ _ fb).trans i0,(Dc _ _ _ _ _ fb).trans i1,(Dc _ _ _ _ _ fb).trans i2,(Dc _ _ _ _ _ fb).trans i3⟩) (first
     |(go_at_call 37;refine(Ss _ k.img n0 n1 n2 n3 _ hS.o.drew.rd.m).mono ?_;rintro e w4 ⟨mv,rfl,om,y4⟩;obtain⟨l1,l2,l3,rfl⟩:=om.shape;have Om:=Z om;clear om;replace hS:=Z (hS.o.drew.keep y4);replace hC:=Z hS.o.kc;replace fC:=Z (A4.keep A2 fC.o ((Below.refl wo.heap.size wo).drew.trans_pure y4 (Nat.le_refl _)) (Nat.le_refl _));have ln:wo.heap.size≤w4.heap.size:=y4.size;have c0:w4.cell? ⟨w.heap.size,0,none⟩=some (.slice a1 a2 a3):=hC.o.cell 0;have i0:w4.cell? ⟨gm,0,none⟩=some (.int .i64 n0):=Ab.at0 fC.o.ints (k:=0) rfl;have i1:w4.cell? ⟨gm,1,none⟩=some (.int .i64 n1):=Ab.at0 fC.o.ints (k:=1) rfl;have i2:w4.cell? ⟨gm,2,none⟩=some (.int .i64 n2):=Ab.at0 fC.o.ints (k:=2) rfl;have i3:w4.cell? ⟨gm,3,none⟩=some (.int .i64 n3):=Ab.at0 fC.o.ints (k:=3) rfl)
     |(go_at_call 29;refine(A0W hS.o Om.o tL (Nat.le_refl _)).mono ?_;rintro e w5 ⟨z1,z2,z3,rfl,hE,on⟩;replace hC:=Z (hC.o.only on iD);replace fC:=Z (A4.only A2 fC.o on (fun b hb=>by have:=hb.2;omega) (fun b hb e=>by have:=hb.1;have:b=w1.heap.size:=e;omega));have HE:=Z hE;clear hE;have c0:w5.cell? ⟨w.heap.size,0,none⟩=some (.slice a1 a2 a3):=hC.o.cell 0;have i0:w5.cell? ⟨gm,0,none⟩=some (.int .i64 n0):=Ab.at0 fC.o.ints (k:=0) rfl;have i1:w5.cell? ⟨gm,1,none⟩=some (.int .i64 n1):=Ab.at0 fC.o.ints (k:=1) rfl;have i2:w5.cell? ⟨gm,2,none⟩=some (.int .i64 n2):=Ab.at0 fC.o.ints (k:=2) rfl;have i3:w5.cell? ⟨gm,3,none⟩=some (.int .i64 n3):=Ab.at0 fC.o.ints (k:=3) rfl;obtain⟨x0,x1,x2,f0,f1,f2⟩:=HE.o.kr.x3))
    go_wp2;obtain⟨⟨e0,e1,e2⟩,aF⟩:=(HE.o).fin;exact bodyPost_ret (v:=.tuple #[.agg #[.slice z1 z2 z3,.slice q1 q2 q3,.slice r1 r2 r3],.string (Ff k (IT k.img n0 n1 n2 n3)).2]) (by simp[results,Tryz.results13,go_sem,e0,e1,e2]) rfl (aF _)
   |flip n0 n1 hn d6=>
    have hN:n=2:=Hn.o.symm.trans hn;have fE:((n:Int)==1)=false:=by rw[hN];rfl
    have fo:((n:Int)==2)=true:=by rw[hN];rfl
    have hq4:((n:Int)==4)=false:=by rw[hN];rfl
    have hi0:0<n:=by omega
    have wq:1<n:=by omega
    clear hn hN;have jw:=Z d6;clear d6;rw[jw.o] at aB;obtain⟨gm,cm,hv,dm,e9,-,-⟩:=aB.inv_ne (by simp);replace hv:_=Value.slice (some ⟨gm,0,none⟩) 2 cm:=hv;subst hv;replace e9:2≤cm:=e9;have jP:=aB.ints;have i0:wo.cell? ⟨gm,0,none⟩=some (.int .i64 n0):=Ab.at0 jP (k:=0) rfl;have i1:wo.cell? ⟨gm,1,none⟩=some (.int .i64 n1):=Ab.at0 jP (k:=1) rfl;have qY:=dm.1;have fb:(⟨gm,0,none⟩:Addr).block≠w.heap.size+1:=by show gm≠w.heap.size+1;omega
    have qO:¬gm=w1.heap.size:=by omega
    have fC:=Z aB;clear aB jP;have tL:w1.heap.size<wo.drew.heap.size:=by show w1.heap.size<wo.heap.size;omega
    have jI:=Rt k.img n0 n1;obtain⟨C,hC⟩:∃C,I7 k.img n0 n1=C:=⟨_,rfl⟩;have Hf:=Z (show Lg k.img n0 n1=Jl k.img n0 n1 (1-C) from by unfold Lg;rw[hC]);have HC:=Z hC;rw[hC] at jI;have yv:=Z (show IntKind.i64.wrap (1-C)=1-C from by rw[IntKind.wrap_i64];omega);clear hC;have Hgm:=Z (show Ak wo.drew _ k.img from hS.o.drew.rd.m);have hC:=Z hS.o.kc;have iC:(⟨w.heap.size,0,none⟩:Addr).block≠w.heap.size+1:=by show w.heap.size≠w.heap.size+1;omega
    have iD:¬w.heap.size=w1.heap.size:=by omega
    go_wp2_with (fail)
    go_region_held3 (fun w'=>w'.cell? ⟨w.heap.size,0,none⟩=some (.slice a1 a2 a3)∧w'.cell? ⟨gm,0,none⟩=some (.int .i64 n0)∧w'.cell? ⟨gm,1,none⟩=some (.int .i64 n1)) (first|exact⟨c0,i0,i1⟩|exact⟨(Dc _ _ _ _ _ iC).trans c0,(Dc _ _ _ _ _ fb).trans i0,(Dc _ _ _ _ _ fb).trans i1⟩) (first
     |(go_at_call 39;refine(SX _ k.img n0 n1 _ Hgm.o).mono ?_;rw[HC.o];rintro e w4 ⟨rfl,rfl⟩)
     |(go_at_call 38;(try rw[yv.o]);(with_reducible refine(A2L _ k.img n0 n1 (1-C) _ Hgm.o).mono ?_);rintro e w4 ⟨mv,rfl,om,y4⟩;obtain⟨l1,l2,l3,rfl⟩:=om.shape;have Om:=Z om;clear om;replace hS:=Z (hS.o.drew.keep y4);replace hC:=Z hS.o.kc;replace fC:=Z (A4.keep A2 fC.o ((Below.refl wo.heap.size wo).drew.trans_pure y4 (Nat.le_refl _)) (Nat.le_refl _));have ln:wo.heap.size≤w4.heap.size:=y4.size;have c0:w4.cell? ⟨w.heap.size,0,none⟩=some (.slice a1 a2 a3):=hC.o.cell 0;have i0:w4.cell? ⟨gm,0,none⟩=some (.int .i64 n0):=Ab.at0 fC.o.ints (k:=0) rfl;have i1:w4.cell? ⟨gm,1,none⟩=some (.int .i64 n1):=Ab.at0 fC.o.ints (k:=1) rfl)
     |(go_at_call 29;refine(A0W hS.o Om.o tL (Nat.le_refl _)).mono ?_;rintro e w5 ⟨z1,z2,z3,rfl,hE,on⟩;replace hC:=Z (hC.o.only on iD);replace fC:=Z (A4.only A2 fC.o on (fun b hb=>by have:=hb.2;omega) (fun b hb e=>by have:=hb.1;have:b=w1.heap.size:=e;omega));have HE:=Z hE;clear hE;have c0:w5.cell? ⟨w.heap.size,0,none⟩=some (.slice a1 a2 a3):=hC.o.cell 0;have i0:w5.cell? ⟨gm,0,none⟩=some (.int .i64 n0):=Ab.at0 fC.o.ints (k:=0) rfl;have i1:w5.cell? ⟨gm,1,none⟩=some (.int .i64 n1):=Ab.at0 fC.o.ints (k:=1) rfl;obtain⟨x0,x1,x2,f0,f1,f2⟩:=HE.o.kr.x3))
    go_wp2;obtain⟨⟨e0,e1,e2⟩,aF⟩:=(HE.o).fin;exact bodyPost_ret (v:=.tuple #[.agg #[.slice z1 z2 z3,.slice q1 q2 q3,.slice r1 r2 r3],.string (Ff k (Jl k.img n0 n1 (1-C))).2]) (by simp[results,Tryz.results13,go_sem,e0,e1,e2]) rfl (by rw[Hf.o];exact aF _)
   |line0 n0 n1 hn d6 db=>
    have hN:n=2:=Hn.o.symm.trans hn;have fE:((n:Int)==1)=false:=by rw[hN];rfl
    have fo:((n:Int)==2)=true:=by rw[hN];rfl
    have hq4:((n:Int)==4)=false:=by rw[hN];rfl
    have hi0:0<n:=by omega
    have wq:1<n:=by omega
    clear hn hN;have jw:=Z d6;clear d6;have lb:=Z db;clear db;rw[jw.o] at aB;obtain⟨gm,cm,hv,dm,e9,-,-⟩:=aB.inv_ne (by simp);replace hv:_=Value.slice (some ⟨gm,0,none⟩) 2 cm:=hv;subst hv;replace e9:2≤cm:=e9;have jP:=aB.ints;have i0:wo.cell? ⟨gm,0,none⟩=some (.int .i64 n0):=Ab.at0 jP (k:=0) rfl;have i1:wo.cell? ⟨gm,1,none⟩=some (.int .i64 n1):=Ab.at0 jP (k:=1) rfl;have qY:=dm.1;have fb:(⟨gm,0,none⟩:Addr).block≠w.heap.size+1:=by show gm≠w.heap.size+1;omega
    have qO:¬gm=w1.heap.size:=by omega
    have fC:=Z aB;clear aB jP;have tL:w1.heap.size<wo.drew.heap.size:=by show w1.heap.size<wo.heap.size;omega
    have hC:=Z hS.o.kc;have iC:(⟨w.heap.size,0,none⟩:Addr).block≠w.heap.size+1:=by show w.heap.size≠w.heap.size+1;omega
    have iD:¬w.heap.size=w1.heap.size:=by omega
    go_wp2_with (fail)
    go_region_held3 (fun w'=>w'.cell? ⟨w.heap.size,0,none⟩=some (.slice a1 a2 a3)∧w'.cell? ⟨gm,0,none⟩=some (.int .i64 n0)∧w'.cell? ⟨gm,1,none⟩=some (.int .i64 n1)) (first|exact⟨c0,i0,i1⟩|exact⟨(Dc _ _ _ _ _ iC).trans c0,(Dc _ _ _ _ _ fb).trans i0,(Dc _ _ _ _ _ fb).trans i1⟩) (first
     |(go_at_call 42;refine(R5 _ k.img n0 n1 _ hS.o.drew.rd.m).mono ?_;rw[lb.o];rintro e w4 ig;obtain⟨rfl,y4⟩:=ig.nil;clear ig;replace hS:=Z (hS.o.drew.keep y4);replace hC:=Z hS.o.kc;replace fC:=Z (A4.keep A2 fC.o ((Below.refl wo.heap.size wo).drew.trans_pure y4 (Nat.le_refl _)) (Nat.le_refl _));have c0:w4.cell? ⟨w.heap.size,0,none⟩=some (.slice a1 a2 a3):=hC.o.cell 0;have i0:w4.cell? ⟨gm,0,none⟩=some (.int .i64 n0):=Ab.at0 fC.o.ints (k:=0) rfl;have i1:w4.cell? ⟨gm,1,none⟩=some (.int .i64 n1):=Ab.at0 fC.o.ints (k:=1) rfl))
    obtain⟨o0,o1,o2⟩:=hS.o.ko.c3;obtain⟨x0,x1,x2,f0,f1,f2⟩:=hS.o.kr.x3;have dA:Sem.run Tryz.prog (binOp BinOp.eql 32 (.slice none 0 0) (.slice none 0 0)) w4=.ok (.bool true) w4:=by kernel_rfl
    go_wp2;obtain⟨⟨e0,e1,e2⟩,aF⟩:=(hS.o.done).fin;exact bodyPost_ret (v:=.tuple #[.agg #[.slice p1 p2 p3,.slice q1 q2 q3,.slice r1 r2 r3],.string BZ]) (by simp[results,Tryz.results13,go_sem,e0,e1,e2,BZ]) rfl (aF _)
   |line1 n0 n1 hn d6 db=>
    have hN:n=2:=Hn.o.symm.trans hn;have fE:((n:Int)==1)=false:=by rw[hN];rfl
    have fo:((n:Int)==2)=true:=by rw[hN];rfl
    have hq4:((n:Int)==4)=false:=by rw[hN];rfl
    have hi0:0<n:=by omega
    have wq:1<n:=by omega
    clear hn hN;have jw:=Z d6;clear d6;have lb:=Z db;have dX:=L3 k.img n0 n1;clear db;rw[jw.o] at aB;obtain⟨gm,cm,hv,dm,e9,-,-⟩:=aB.inv_ne (by simp);replace hv:_=Value.slice (some ⟨gm,0,none⟩) 2 cm:=hv;subst hv;replace e9:2≤cm:=e9;have jP:=aB.ints;have i0:wo.cell? ⟨gm,0,none⟩=some (.int .i64 n0):=Ab.at0 jP (k:=0) rfl;have i1:wo.cell? ⟨gm,1,none⟩=some (.int .i64 n1):=Ab.at0 jP (k:=1) rfl;have qY:=dm.1;have fb:(⟨gm,0,none⟩:Addr).block≠w.heap.size+1:=by show gm≠w.heap.size+1;omega
    have qO:¬gm=w1.heap.size:=by omega
    have fC:=Z aB;clear aB jP;have tL:w1.heap.size<wo.drew.heap.size:=by show w1.heap.size<wo.heap.size;omega
    have iP:=Z ((eD.o.keep (Below.refl _ _).drew).1);have hC:=Z hS.o.kc;have iC:(⟨w.heap.size,0,none⟩:Addr).block≠w.heap.size+1:=by show w.heap.size≠w.heap.size+1;omega
    have iD:¬w.heap.size=w1.heap.size:=by omega
    go_wp2_with (fail)
    go_region_held3 (fun w'=>w'.cell? ⟨w.heap.size,0,none⟩=some (.slice a1 a2 a3)∧w'.cell? ⟨gm,0,none⟩=some (.int .i64 n0)∧w'.cell? ⟨gm,1,none⟩=some (.int .i64 n1)) (first|exact⟨c0,i0,i1⟩|exact⟨(Dc _ _ _ _ _ iC).trans c0,(Dc _ _ _ _ _ fb).trans i0,(Dc _ _ _ _ _ fb).trans i1⟩) (first
     |(go_at_call 42;refine(R5 _ k.img n0 n1 _ hS.o.drew.rd.m).mono ?_;rintro e w4 ig;obtain⟨gl,cl,rfl,oi,y4⟩:=ig.cons lb.o;have Oi:=Z (oi.keep (Below.refl _ _).drew);clear ig oi;replace iP:=Z ((iP.o.keep y4).keep (Below.refl _ _).drew);replace hS:=Z (hS.o.drew.keep y4);replace hC:=Z hS.o.kc;replace fC:=Z (A4.keep A2 fC.o ((Below.refl wo.heap.size wo).drew.trans_pure y4 (Nat.le_refl _)) (Nat.le_refl _));have c0:w4.cell? ⟨w.heap.size,0,none⟩=some (.slice a1 a2 a3):=hC.o.cell 0;have i0:w4.cell? ⟨gm,0,none⟩=some (.int .i64 n0):=Ab.at0 fC.o.ints (k:=0) rfl;have i1:w4.cell? ⟨gm,1,none⟩=some (.int .i64 n1):=Ab.at0 fC.o.ints (k:=1) rfl))
    obtain⟨o0,o1,o2⟩:=hS.o.ko.c3;obtain⟨x0,x1,x2,f0,f1,f2⟩:=hS.o.kr.x3;replace hS:=Z hS.o.drew;have mC:Sem.run Tryz.prog (binOp BinOp.eql 32 (.slice (some ⟨gl,0,none⟩) (BA k.img n0 n1).length cl) (.slice none 0 0)) w4=.ok (.bool false) w4:=by kernel_rfl
    go_wp2;go_region_with (go_at_call 43;refine(Ck _ (BA k.img n0 n1) _ Oi.o (by omega) iP.o).mono ?_;rintro e w5 ⟨rfl,y5⟩;replace hS:=Z (hS.o.keep y5);obtain⟨o0,o1,o2⟩:=hS.o.ko.c3;obtain⟨x0,x1,x2,f0,f1,f2⟩:=hS.o.kr.x3)
    all_goals go_wp2
    all_goals
     obtain⟨⟨e0,e1,e2⟩,aF⟩:=(hS.o.done).fin;exact bodyPost_ret (v:=.tuple #[.agg #[.slice p1 p2 p3,.slice q1 q2 q3,.slice r1 r2 r3],.string (Aj (BA k.img n0 n1))]) (by simp[results,Tryz.results13,go_sem,e0,e1,e2]) rfl (aF _)

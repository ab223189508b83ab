/- Base. -/
import Derived.Test.YthmocomfjgmjoaaGreatDoorQ25
set_option maxHeartbeats 4000000
set_option maxRecDepth 100000
namespace Go.Proofs.YthmocomfjgmjoaaGreatDoor
open Go.RowKit Go.Proofs.Tryz
theorem GX(dx dy:Int)(w:World):Calls prog 211 #[QT dx dy] w fun e w'=>e=.returned (.bool (CI dx dy))∧Below w.heap.size w w':=by
 have Hb:=Z (Below.qab w (.cells #[.int .i64 dx,.int .i64 dy] 73));cases h1:C1 0 3 dx
 ·have Hr:=Z (show CI dx dy=false from by simp[CI,h1]);have H1:=Z h1;clear h1;go_enter func211,ntmps211;go_wp2_with fail;refine(Bd _ _ _ _).mono ?_;rintro e w' ⟨rfl,rfl⟩;rw[H1.o];go_wp2
  go_ret
  exact⟨AW Hr.o.symm,Hb.o⟩
 cases h2:C1 (-3) 3 dy
 ·have Hr:=Z (show CI dx dy=false from by simp[CI,h2]);have H1:=Z h1;clear h1;have H2:=Z h2;clear h2;go_enter func211,ntmps211;go_wp2_with fail;refine(Bd _ _ _ _).mono ?_;rintro e w' ⟨rfl,rfl⟩;rw[H1.o];go_wp2_with fail;refine(Bd _ _ _ _).mono ?_;rintro e w' ⟨rfl,rfl⟩;rw[H2.o];go_wp2
  go_ret
  exact⟨AW Hr.o.symm,Hb.o⟩
 have ly:=(Bz ..).mp h1;have nP:=(Bz ..).mp h2;obtain⟨a1,a2⟩:=ly;obtain⟨a3,a4⟩:=nP;obtain⟨G,hG⟩:∃G,G=Int.gcd dx dy:=⟨_,rfl⟩;have HR:Hid (CI dx dy=(decide (G=1)&&(decide (0<dx)||decide (dy=1)))):=Z (by unfold CI;rw[h1,h2,hG];rfl);have HG:=Z hG;have H1:=Z h1;have H2:=Z h2;clear h1 h2 hG;by_cases hg:G=1
 ·by_cases hx:0<dx
  ·have Hr:=Z (show CI dx dy=true from by rw[HR.o];simp[hg,hx]);have hdx:decide (0<dx)=true:=by simpa using hx
   have hge:((G:Int)==1)=true:=by rw[hg];rfl
   clear hg hx;go_enter func211,ntmps211;go_wp2_with fail;refine(Bd _ _ _ _).mono ?_;rintro e w' ⟨rfl,rfl⟩;rw[H1.o];go_wp2_with fail;refine(Bd _ _ _ _).mono ?_;rintro e w' ⟨rfl,rfl⟩;rw[H2.o];go_wp2_with fail;refine(RF _ _ _ J a2 a3 a4).mono ?_;rintro e w' ⟨rfl,rfl⟩;rw[←HG.o];go_wp2
   go_ret
   exact⟨AW Hr.o.symm,Hb.o⟩
  ·have Hr:=Z (show CI dx dy=(dy==1)from by rw[HR.o];simp[hg,hx];rfl);have hdx:decide (0<dx)=false:=by simpa using hx
   have hge:((G:Int)==1)=true:=by rw[hg];rfl
   clear hg hx;go_enter func211,ntmps211;go_wp2_with fail;refine(Bd _ _ _ _).mono ?_;rintro e w' ⟨rfl,rfl⟩;rw[H1.o];go_wp2_with fail;refine(Bd _ _ _ _).mono ?_;rintro e w' ⟨rfl,rfl⟩;rw[H2.o];go_wp2_with fail;refine(RF _ _ _ J a2 a3 a4).mono ?_;rintro e w' ⟨rfl,rfl⟩;rw[←HG.o];go_wp2
   go_ret
   exact⟨AW Hr.o.symm,Hb.o⟩
 ·have Hr:=Z (show CI dx dy=false from by rw[HR.o];simp[hg]);have hge:((G:Int)==1)=false:=by rw[Ai];omega
  clear hg;go_enter func211,ntmps211;go_wp2_with fail;refine(Bd _ _ _ _).mono ?_;rintro e w' ⟨rfl,rfl⟩;rw[H1.o];go_wp2_with fail;refine(Bd _ _ _ _).mono ?_;rintro e w' ⟨rfl,rfl⟩;rw[H2.o];go_wp2_with fail;refine(RF _ _ _ J a2 a3 a4).mono ?_;rintro e w' ⟨rfl,rfl⟩;rw[←HG.o];go_wp2
  go_ret
  exact⟨AW Hr.o.symm,Hb.o⟩
theorem Z6(c:Nat)(dx dy:Int)(w:World)(d3:-3≤dy)(d4:dy≤3)(hc1:1≤c)(hc5:c≤5):Calls prog 277 #[.int .i64 c,QT dx dy] w fun e w'=>e=.returned (.int .i64 (min 0 (-dy*((c:Int)-1))))∧Below w.heap.size w w':=by
 have Hb:=Z (Below.qab w (.cells #[.int .i64 dx,.int .i64 dy] 73));obtain⟨r1,r2⟩:=Oz (a:=-dy) (y:=(c:Int)-1) J J J J;go_enter func277,ntmps277;go_wp2
 all_goals go_ret
 all_goals exact⟨CY J,Hb.o⟩
theorem Xd(r c:Nat)(dx dy:Int)(y x:Nat)(w:World)(hd:CI dx dy=true)(hr1:1≤r)(hr5:r≤5)(hc1:1≤c)(hc5:c≤5)(hy:y<r)(hx:x<c):
  Calls prog 213 #[.int .i64 r,.int .i64 c,QT dx dy,.int .i64 y,.int .i64 x] w fun e w'=>e=.returned (.int .i64 (F7 c dx dy y x))∧Below w.heap.size w w':=by
 have gv:=Z (B9.new w #[.int .i64 dx,.int .i64 dy] 73);have eI:=Z (Below.qab w (.cells #[.int .i64 dx,.int .i64 dy] 73));obtain⟨d1,d2,d3,d4⟩:=FW hd;obtain⟨p1,p2⟩:=A0u (y:=(y:Int)) d1 d2 J J;obtain⟨q1,q2⟩:=Oz (y:=(x:Int)) d3 d4 J J;obtain⟨r1,r2⟩:=Oz (a:=-dy) (y:=(c:Int)-1) J J J J;obtain⟨M,hM⟩:∃M,M=min 0 (-dy*((c:Int)-1)):=⟨_,rfl⟩;have hM0:-12≤M:=J;have mG:M≤0:=J;have Hr:=Z (show dx*(y:Int)-dy*(x:Int)-M=F7 c dx dy y x from by rw[hM,A2g]);have HM:=Z hM;have Hd:=Z hd;have H1:=Z (show(C1 1 5 (r:Int)&&C1 1 5 (c:Int))=true from by rw[Ft J J,Ft J J];rfl);have H2:=Z (show C1 0 ((r:Int)-1) (y:Int)=true from Ft J J);have H3:=Z (show C1 0 ((c:Int)-1) (x:Int)=true from Ft J J);clear hd hM;go_enter func213,ntmps213;go_wp2_with fail;refine(IJ _ _ _).mono ?_;rintro e w' ⟨rfl,rfl⟩;rw[H1.o];go_wp2_with fail;refine(GX _ _ _).mono ?_;rintro e w1 ⟨rfl,b1⟩;rw[Hd.o];have mZ:B9 w1 w.heap.size #[.int .i64 dx,.int .i64 dy] 73:=gv.o.keep b1;replace gv:=Z (show B9 w1.drew w.heap.size #[.int .i64 dx,.int .i64 dy] 73 from mZ);replace eI:=Z (eI.o.qaa b1 (A2 _)).drew;clear b1 mZ;go_wp2_with fail;refine(Bd _ _ _ _).mono ?_;rintro e w' ⟨rfl,rfl⟩;rw[H2.o];go_wp2_with fail;refine(Bd _ _ _ _).mono ?_;rintro e w' ⟨rfl,rfl⟩;rw[H3.o];have c0:w1.cell? ⟨w.heap.size,0,none⟩=some (.int .i64 dx):=gv.o.cell 0;have c1:w1.cell? ⟨w.heap.size,1,none⟩=some (.int .i64 dy):=gv.o.cell 1;have hw1:IntKind.i64.wrap (dx*(y:Int))=dx*(y:Int):=IntWalk.i64_in _ J;have hw2:IntKind.i64.wrap (dy*(x:Int))=dy*(x:Int):=IntWalk.i64_in _ J;have hw3:IntKind.i64.wrap (dx*(y:Int)-dy*(x:Int))=dx*(y:Int)-dy*(x:Int):=IntWalk.i64_in _ J;have hw4:IntKind.i64.wrap (dx*(y:Int)-dy*(x:Int)-M)=dx*(y:Int)-dy*(x:Int)-M:=IntWalk.i64_in _ J;have Hw4:=Z hw4;clear p1 p2 q1 q2 r1 r2 hM0 mG;go_wp2;go_region_with (go_at_call 277;refine(Z6 c dx dy _ d3 d4 hc1 hc5).mono ?_;rintro e w2 ⟨rfl,af⟩;rw[←HM.o];replace gv:=Z (gv.o.keep af);replace eI:=Z (eI.o.qaa af (A2 _));have c0:w2.cell? ⟨w.heap.size,0,none⟩=some (.int .i64 dx):=gv.o.cell 0;have c1:w2.cell? ⟨w.heap.size,1,none⟩=some (.int .i64 dy):=gv.o.cell 1)
 all_goals clear hw1 hw2 hw3 hw4
 all_goals go_wp2
 all_goals go_ret
 all_goals exact⟨CY (by first|exact Hr.o|(rw[Hw4.o];exact Hr.o)),eI.o⟩
theorem Wz(r c:Nat)(dx dy:Int)(w:World)(hd:CI dx dy=true)(hr1:1≤r)(hr5:r≤5)(hc1:1≤c)(hc5:c≤5):Calls prog 212 #[.int .i64 r,.int .i64 c,QT dx dy] w fun e w'=>e=.returned (.int .i64 (Qh r c dx dy))∧Below w.heap.size w w':=by
 have gv:=Z (B9.new w #[.int .i64 dx,.int .i64 dy] 73);have eI:=Z (Below.qab w (.cells #[.int .i64 dx,.int .i64 dy] 73));have lQ:=FW hd;have hn:=Kr lQ hr1 hr5 hc1 hc5;obtain⟨T,hT⟩:∃T,T=Qh r c dx dy:=⟨_,rfl⟩;rw[←hT]at hn;have HT:=Z hT;have sU:=hn.1;have d5:=hn.2;have Hd:=Z hd;have H1:=Z (show(C1 1 5 (r:Int)&&C1 1 5 (c:Int))=true from by rw[Ft J J,Ft J J];rfl);clear hd hn hT;go_enter func212,ntmps212;go_wp2_with fail;refine(IJ _ _ _).mono ?_;rintro e w' ⟨rfl,rfl⟩;rw[H1.o];go_wp2_with fail;refine(GX _ _ _).mono ?_;rintro e w1 ⟨rfl,b1⟩;rw[Hd.o];have ki:Hid (B9 w1 w.heap.size #[.int .i64 dx,.int .i64 dy] 73):=Z (gv.o.keep b1);have dm:=Z (eI.o.qaa b1 (A2 _));clear b1 gv eI;go_wp2;go_loopw [7,8,9] (fun n y _ wr=>∃(k:Nat)(q:Int),k≤r∧y=.int .i64 k∧n=.int .i64 q∧0≤q∧q≤T∧Hid (∀y' x':Nat,y'<k→x'<c→F7 c dx dy y' x'+1≤q)∧Hid (B9 wr w.heap.size #[.int .i64 dx,.int .i64 dy] 73)∧Hid (Below w.heap.size w wr)) (fun _ y _ _=>r-(intOf y).toNat);exact⟨0,0,A7 _,rfl,rfl,Int.le_refl _,J,Z (fun y' x' h _=>absurd h J),ki,dm⟩;clear ki dm;obtain⟨k,q,hk,rfl,rfl,nU,cf,Hq,HB,Hb⟩:=hrel;by_cases aF:k<r
 ·go_wp2;go_loopw [7,9] (fun n x wr=>∃(j:Nat)(q:Int),j≤c∧x=.int .i64 j∧n=.int .i64 q∧0≤q∧q≤T∧Hid (∀y' x':Nat,(y'<k∨y'=k∧x'<j)→x'<c→F7 c dx dy y' x'+1≤q)∧Hid (B9 wr w.heap.size #[.int .i64 dx,.int .i64 dy] 73)∧Hid (Below w.heap.size w wr)) (fun _ x _=>c-(intOf x).toNat);exact⟨0,q,A7 _,rfl,rfl,nU,cf,Z (fun y' x' h hx=>Hq.o y' x' J hx),HB,Hb⟩;clear HB Hb Hq nU cf;obtain⟨j,q,hj,rfl,rfl,nU,cf,Hq,HB,Hb⟩:=hrel;by_cases hltj:j<c
  ·have iY:=GQ (r:=r) (c:=c) lQ (y:=(k:Int)) (x:=(j:Int)) J J J J;rw[←HT.o]at iY;obtain⟨L,hL⟩:∃L,L=F7 c dx dy k j:=⟨_,rfl⟩;rw[←hL]at iY;have HL:=Z hL;have sY:=iY.1;have hL1:=iY.2;have c0:wr.cell? ⟨w.heap.size,0,none⟩=some (.int .i64 dx):=HB.o.cell 0;have c1:wr.cell? ⟨w.heap.size,1,none⟩=some (.int .i64 dy):=HB.o.cell 1;clear hL iY;go_wp2_with fail;refine(Xd r c dx dy k j _ Hd.o hr1 hr5 hc1 hc5 aF hltj).mono ?_;rintro e w5 ⟨rfl,b5⟩;rw[←HL.o];have oE:=Z (HB.o.keep b5);have gd:=Z (Hb.o.qaa b5 (A2 _));clear b5 c0 c1;go_wp2
   all_goals go_roundw
   all_goals first
    |(case measure=>exact Jv)
    |(case rel=>exact⟨j+1,_,J,by go_num,rfl,J,J,Z (by
       intro y' x' h hx;by_cases e:y'=k∧x'=j
       ·obtain⟨rfl,rfl⟩:=e;have:=HL.o;omega
       ·have:=Hq.o y' x' J hx;omega),oE,gd⟩)
  ·obtain rfl:j=c:=J;go_wp2;go_roundw;exact⟨k+1,q,J,by go_num,rfl,nU,cf,Z (fun y' x' h hx=>Hq.o y' x' J hx),HB,Hb⟩;exact Jv
 ·obtain rfl:k=r:=J;have aU:=Z (show q=Qh k c dx dy from by
   have h1:=Hq.o (k-1) 0 J J;have h2:=Hq.o (k-1) (c-1) J J;have e1:((k-1:Nat):Int)=(k:Int)-1:=J;have e2:((c-1:Nat):Int)=(c:Int)-1:=J;have e3:((0:Nat):Int)=0:=rfl;rw[e1,e3]at h1;rw[e1,e2]at h2;have h3:=A3B (r:=k) (c:=c) (dx:=dx) (dy:=dy);have:=HT.o;omega)
  go_wp2
  go_ret
  exact⟨CY aU.o,Hb.o⟩
theorem WD(v:Value)(m:I)(r c:Nat)(dx dy:Int)(w:World)(hv:AI w v m)(hs:Ax r c m)(hr1:1≤r)(hr5:r≤5)(hc1:1≤c)(hc5:c≤5)(hd:CI dx dy=true):
  Calls prog 151 #[v,QT dx dy] w (Qy w (Ef m r c dx dy r (List.replicate (Qh r c dx dy).toNat 0))):=by
 have lQ:=FW hd;have hn:=Kr lQ hr1 hr5 hc1 hc5;obtain⟨N,hN⟩:∃N:Nat,Qh r c dx dy=N:=⟨(Qh r c dx dy).toNat,J⟩;obtain⟨F,hF⟩:∃F,F=Ef m r c dx dy r (List.replicate (Qh r c dx dy).toNat 0):=⟨_,rfl⟩;have pR:F.length=N:=by rw[hF,MX,List.length_replicate,hN];rfl
 rw[←hF];have HF:=Z (show Ef m r c dx dy r (List.replicate N 0)=F from by rw[hF,hN];rfl);have tx:=Z pR;have HN:=Z hN;have lu:1≤N:=J;have lb:0<r:=J;have jt:N≤25:=J;obtain⟨b,off,cp,rfl,hb,ah⟩:=hv.cells hs hr1 hc1;have fL:=Z ah;obtain⟨b0,o0,c0',bE,bu,-⟩:=ah 0 J;rw[AF]at bE;have bu:=Below.qab w (.cells #[.int .i64 dx,.int .i64 dy] 73);have Hv:=Z (hv.keep bu);have fV:=Z bu;have HB0:=Z (B9.new w #[.int .i64 dx,.int .i64 dy] 73);have aR:=Z (hs.ok hr1 hr5 hc1 hc5);have px:=Z bE;have Hd:=Z hd;clear ah hF pR hN hn hd bE bu;go_enter func151,ntmps151;go_wp2_with fail;refine(Bh _ _ _ Hv.o).mono ?_;rintro e w' ⟨rfl,rfl⟩;rw[aR.o];go_wp2_with fail;refine(GX _ _ _).mono ?_;rintro e W1 ⟨rfl,b1⟩;rw[Hd.o];have oB:=Z (HB0.o.keep b1);have lR:=Z (fV.o.qaa b1 (A2 _));have jI:=(lR.o.cell (p:=⟨b,off,none⟩) hb).trans px.o;have c0:W1.cell? ⟨w.heap.size,0,none⟩=some (.int .i64 dx):=oB.o.cell 0;have c1:W1.cell? ⟨w.heap.size,1,none⟩=some (.int .i64 dy):=oB.o.cell 1;clear b1;go_wp2;go_region_with (go_at_call 212;refine(Wz r c dx dy _ Hd.o hr1 hr5 hc1 hc5).mono ?_;rintro e w2 ⟨rfl,b2⟩;rw[HN.o];obtain⟨w3,jX,o3,b3,z3⟩:=A2G (P:=prog) w2 32 3 underlying32 Bg rfl Jq (R:=Ap) 0 ⟨rfl,Cc.small Jq Jq⟩ A8 N J)
 all_goals
  have dg:Below w.heap.size w w3:=(lR.o.qaa (by first|exact b2|exact DZ b2) (A2 _)).qaa b3 (A2 _);have ji:Hid (B9 w3 w.heap.size #[.int .i64 dx,.int .i64 dy] 73):=Z ((oB.o.keep (by first|exact b2|exact DZ b2)).keep b3);have tz:w.heap.size<w2.heap.size:=Aa oB.o.lt (Below.size (by first|exact b2|exact DZ b2:Below W1.heap.size W1 w2));have m4:w2.heap.size<w3.heap.size:=J;have cY:=Z o3;have bN:=Z dg;clear b2 b3 o3 jX z3 dg c0 c1 jI;go_wp2;go_loopw [6,7,8,9,10,30] (fun _ _ _ _ _ i wr=>∃(k:Nat)(l:U),k≤r∧i=.int .i64 k∧Hid (Ef m r c dx dy (r-k) l=F)∧Hid (l.length=N)∧Hid (LG ((5*k:Nat):Int) l)∧Hid (Ag 3 Ap (fun b=>b=w2.heap.size) wr (.slice (some ⟨w2.heap.size,0,none⟩) N N) l)∧Hid (B9 wr w.heap.size #[.int .i64 dx,.int .i64 dy] 73)∧Hid (Below w.heap.size w wr)∧w2.heap.size<wr.heap.size) (fun _ _ _ _ _ i _=>r-(intOf i).toNat);exact⟨0,List.replicate N 0,A7 _,rfl,HF,Z Jj,Z (fun v hv=>by rw[List.mem_replicate]at hv;omega),cY,ji,bN,m4⟩;clear cY ji bN m4;obtain⟨k,l,hk,rfl,Hl,iX,Hup,Ho,HB,Hb,hDs⟩:=hrel;by_cases aF:k<r
  ·obtain⟨br,offr,cpr,aD,dL,hrx⟩:=fL.o k aF;have gE:=(Hb.o.cell (p:=⟨b,off+k,none⟩) hb).trans aD;have uA:=Z hrx;have qD:=Z (show Ef m r c dx dy (r-(k+1)) (Gw m c dx dy k c l)=F from by rw[←Rp aF];exact Hl.o);have dM:decide ((k:Int)<(r:Int))=true:=by simp;omega
   clear aD hrx;go_wp2;clear gE;go_loopw [8,9,10,37] (fun _ _ _ i wr=>∃(x:Nat)(l:U),x≤c∧i=.int .i64 x∧Hid (Ef m r c dx dy (r-(k+1)) (Gw m c dx dy k (c-x) l)=F)∧Hid (l.length=N)∧Hid (LG ((5*k+x:Nat):Int) l)∧Hid (Ag 3 Ap (fun b=>b=w2.heap.size) wr (.slice (some ⟨w2.heap.size,0,none⟩) N N) l)∧Hid (B9 wr w.heap.size #[.int .i64 dx,.int .i64 dy] 73)∧Hid (Below w.heap.size w wr)∧w2.heap.size<wr.heap.size) (fun _ _ _ i _=>c-(intOf i).toNat);exact⟨0,l,A7 _,rfl,Z (by rw[Nat.sub_zero];exact qD.o),iX,Hup,Ho,HB,Hb,hDs⟩;clear Hl qD iX Hup Ho HB Hb hDs;obtain⟨x,l,hx,rfl,Hl,iX,Hup,Ho,HB,Hb,hDs⟩:=hrel;by_cases bW:x<c
   ·have aH:=(Hb.o.cell (p:=⟨br,offr+x,none⟩) dL).trans (uA.o x bW);have fU:=AS hs k x;have iY:=GQ (r:=r) (c:=c) lQ (y:=(k:Int)) (x:=(x:Int)) J J J J;obtain⟨z,hz⟩:∃z,z=AJ m k x:=⟨_,rfl⟩;rw[←hz]at aH fU;obtain⟨K,hK⟩:∃K:Nat,F7 c dx dy k x=K:=⟨(F7 c dx dy k x).toNat,J⟩;have ql:K<N:=by have:=HN.o;omega
    have jY:=Z (show Ef m r c dx dy (r-(k+1)) (Gw m c dx dy k (c-(x+1)) (IN l K z))=F from by
     have h:=Hl.o;rw[Tb bW,hK,←hz]at h;exact h)
    have HK:=Z hK;have bA:l[K]? =some (l.getD K 0):=BO 0 (by rw[iX.o];exact ql);have lk:=Hup.o _ (A4 bA);have kA:=Z (show LG ((5*k+(x+1):Nat):Int) (IN l K z)from by
     have h:=Hup.o.add (k:=K) (v:=z) (by rw[iX.o];exact ql) fU.1 fU.2;have e:((5*k+x:Nat):Int)+1=((5*k+(x+1):Nat):Int):=J;rwa[e]at h)
    have qm:=Z (show(IN l K z).length=N from by rw[Kv];exact iX.o);obtain⟨u,hu⟩:∃u,u=l.getD K 0:=⟨_,rfl⟩;rw[←hu]at bA lk;have qn:=Z (show l.set K (u+z)=IN l K z from by rw[hu];rfl);have cT:=fU.1;have bL:=fU.2;have eK:=lk.1;have lH:u≤50:=J;have c0:wr.cell? ⟨w.heap.size,0,none⟩=some (.int .i64 dx):=HB.o.cell 0;have c1:wr.cell? ⟨w.heap.size,1,none⟩=some (.int .i64 dy):=HB.o.cell 1;have ex:=Z bA;clear hz hK fU lk iY hu bA;have jI:=(Hb.o.cell (p:=⟨b,off,none⟩) hb).trans px.o;go_wp2;go_region_with (go_at_call 213;refine(Xd r c dx dy k x _ Hd.o hr1 hr5 hc1 hc5 aF bW).mono ?_;rintro e w5 ⟨rfl,b5⟩;rw[HK.o])
    all_goals
     have ww:Below wr.heap.size wr w5:=by first|exact b5|exact DZ b5
     have o5:=(Ab A8).same (Ac ww fun b hb=>by have:b=w2.heap.size:=hb;omega) Ho.o;obtain⟨e1,e2,-⟩:=o5.qaf ex.o;have o6:=o5.qak (k:=K) (by rw[iX.o];exact ql) (c:=u+z) (Cc.small J J);rw[qn.o]at o6;have lB:=Z o6;have zN:=Z ((HB.o.keep ww).qah (g':=w2.heap.size) (j:=K) J (.int .i64 (u+z)));have nw:=Z ((Hb.o.qaa ww (A2 _)).setCell (p:=⟨w2.heap.size,K,none⟩) (by show w.heap.size≤w2.heap.size;omega) (.int .i64 (u+z)));have py:=ww.size;clear o5 o6 b5 ww c0 c1 aH jI;go_wp2;go_roundw;exact⟨x+1,IN l K z,J,by go_num,jY,qm,kA,lB,zN,nw,by rw[As];omega⟩;exact Jv
   ·obtain rfl:x=c:=J;have jY:=Z (show Ef m r x dx dy (r-(k+1)) l=F from by
     have h:=Hl.o;rw[Nat.sub_self]at h;exact h)
    have kA:=Z (show LG ((5*(k+1):Nat):Int) l from Hup.o.mono J);go_wp2;go_roundw;exact⟨k+1,l,J,by go_num,jY,iX,kA,Ho,HB,Hb,hDs⟩;exact Jv
  ·obtain rfl:k=r:=J;have aU:=Z (show l=F from by
    have h:=Hl.o;rw[Nat.sub_self]at h;exact h)
   go_wp2
   go_ret
   refine⟨.slice (some ⟨w2.heap.size,0,none⟩) N N,rfl,?_,Hb.o,.inr ⟨w2.heap.size,N,by rw[tx.o],by rw[tx.o];omega⟩⟩;rw[←aU.o];exact(Ab A8).mono (fun b hb=>⟨by have:b=w2.heap.size:=hb;omega,by have:b=w2.heap.size:=hb;omega⟩) Ho.o
theorem Tc(v:Value)(m:I)(dx dy:Int)(w:World)(hv:AI w v m):Calls prog 151 #[v,QT dx dy] w (Qy w (BQ m dx dy)):=by
 have bu:=Below.qab w (.cells #[.int .i64 dx,.int .i64 dy] 73);have Hv:=Z (hv.keep bu);have fV:=Z bu;obtain⟨a,cap0,rfl,-⟩:=id hv;clear bu;cases hok:AC m
 ·have Hr:=Z (HZ (m:=m) (dx:=dx) (dy:=dy) (by rw[hok];simp));have aR:=Z hok;clear hok;go_enter func151,ntmps151;go_wp2_with fail;refine(Bh _ _ _ Hv.o).mono ?_;rintro e w' ⟨rfl,rfl⟩;rw[aR.o];go_wp2
  go_ret
  exact⟨_,rfl,by rw[Hr.o];exact Ag.nil _ _ _ _,fV.o,.inl ⟨rfl,Hr.o⟩⟩
 obtain⟨r,c,hr1,hr5,hc1,hc5,hs⟩:=Az hok;have aR:=Z hok;cases hd:CI dx dy
 ·have Hr:=Z (HZ (m:=m) (dx:=dx) (dy:=dy) (by rw[hd];simp));have Hd:=Z hd;clear hok hd;go_enter func151,ntmps151;go_wp2_with fail;refine(Bh _ _ _ Hv.o).mono ?_;rintro e w' ⟨rfl,rfl⟩;rw[aR.o];go_wp2_with fail;refine(GX _ _ _).mono ?_;rintro e w2 ⟨rfl,b2⟩;rw[Hd.o];go_wp2
  go_ret
  exact⟨_,rfl,by rw[Hr.o];exact Ag.nil _ _ _ _,fV.o.qaa b2 (A2 _),.inl ⟨rfl,Hr.o⟩⟩
 ·rw[LK hs hr1 hok hd];exact WD _ m r c dx dy w hv hs hr1 hr5 hc1 hc5 hd

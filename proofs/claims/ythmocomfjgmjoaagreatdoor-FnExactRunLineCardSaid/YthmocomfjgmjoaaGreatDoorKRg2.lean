/- RunLine of the program: all, convex. -/
import Derived.Test.YthmocomfjgmjoaaGreatDoorQ35
set_option maxHeartbeats 16000000
set_option maxRecDepth 100000
namespace Go.Proofs.YthmocomfjgmjoaaGreatDoor
open Go.RowKit Go.Proofs.Tryz
theorem Q8(a b c:Value)(k:BU)(s:ByteArray)(r:BU×ByteArray)(w:World)(h:BV w a b c k)(hs:BL k)(ht:Ck w)(aO:AM s 32=[s])(hc:(s=⟨#[97,108,108]⟩∧r=(k,BY (CE ⟨#[59]⟩ (Ci (Bt k.rows k.cols)))))∨(s=⟨#[99,111,110,118,101,120]⟩∧r=(k,BY (CE ⟨#[59]⟩ (Ci (M2 k.rows k.cols)))))):Calls prog 13 #[.agg #[a,b,c],.string s] w (Dd w r):=by
 rcases hc with⟨rfl,rfl⟩|⟨rfl,rfl⟩
 all_goals
  obtain⟨⟨a1,a2,a3,rfl⟩,⟨b1,b2,b3,rfl⟩,⟨d1,d2,d3,rfl⟩⟩:=h.shape;have ap:=B9.keep (B9.new w #[.slice a1 a2 a3,.slice b1 b2 b3,.slice d1 d2 d3] 34) (Below.qab _ (.cells BS 34));have bu:Below w.heap.size w ((w.alloc (.cells #[.slice a1 a2 a3,.slice b1 b2 b3,.slice d1 d2 d3] 34)).alloc (.cells BS 34)):=((A6 _ _).alloc (A2 _) _).alloc (by simp) _;have HC:=Z (h.keep bu);have Hh:=Z h;have Hs:=Z hs;have Ht:=Z ht;have c0:=ap.cell 0;have c1:=ap.cell 1;have c2:=ap.cell 2;simp only[Av,Aw,AB]at c0 c1 c2;clear h hs bu ap ht;have eG:=Z aO;clear aO;go_enter func13,ntmps13;go_wp2_with fail;refine(Co _ _ _ k _ HC.o Hs.o).mono ?_;rintro e w1 ⟨va,vb,vc,rfl,ho,y1⟩;obtain⟨⟨p1,p2,p3,rfl⟩,⟨q1,q2,q3,rfl⟩,⟨r1,r2,r3,rfl⟩⟩:=ho.rd.shape;have St:=Z (EF.start rfl Hh.o y1 ho);clear ho y1 c0 c1 c2;go_wp2_with fail;refine(Do _ 32 _ (by decide)).mono ?_;rintro e w2 ⟨vw,rfl,ow,y2⟩;rw[eG.o]at ow;obtain⟨gw,cw,rfl,hgw,dt,-,-⟩:=ow.qac (by decide);have hS:=Z (St.o.keep y2);have Hw:=Z ow.strs;have w0:=CX.at0 Hw.o (k:=0) rfl;have oJ:1≤cw:=dt;clear ow y2 St;obtain⟨P,hP⟩:∃P,(if cw=1 then(some ⟨gw,0,none⟩:Option Addr)else some ⟨gw,1,none⟩)=P:=⟨_,rfl⟩;obtain⟨c0,c1,c2⟩:=hS.o.kc.c3;obtain⟨o0,o1,o2⟩:=hS.o.ko.c3;obtain⟨x0,x1,x2,f0,f1,f2⟩:=hS.o.kr.x3;have hT:=Z (Ht.o.keep hS.o.base);go_wp2;refine wp_loop_rounds 1 ?_;rw[rounds_succ]
 ·go_wp2_with fail;refine(El _ _ k.rows k.cols _ hS.o.rd.r hS.o.rd.c).mono ?_;obtain⟨L,hL⟩:∃L,Bt k.rows k.cols=L:=⟨_,rfl⟩;have aN:L.length≤1073741824:=by rw[←hL];exact Eo _ _
  have kY:=Z (IZ aN);rintro e w3 ⟨vl,rfl,ol,y3⟩;have hG:=ol.qan;rw[hL]at hG;rw[hL];have Hr:=Z hL;obtain⟨l1,l2,rfl,j6⟩:=id hG;replace hS:=Z (hS.o.keep y3);have HG:=Z (show Gv w3.drew _ L from hG);clear c0 c1 c2 o0 o1 o2 x0 x1 x2 f0 f1 f2 hL j6 hG;obtain⟨o0,o1,o2⟩:=hS.o.ko.c3;obtain⟨x0,x1,x2,f0,f1,f2⟩:=hS.o.kr.x3;replace hS:=Z hS.o.drew;go_wp2;go_region_with (first
   |(go_at_call 49;refine(Oh _ L _ HG.o aN).mono ?_;rintro e w4 ⟨vs,rfl,os,y4⟩;replace hS:=Z (hS.o.keep y4);have qZ:=Z os.strs;obtain⟨o0,o1,o2⟩:=hS.o.ko.c3;obtain⟨x0,x1,x2,f0,f1,f2⟩:=hS.o.kr.x3)
   |(go_at_call 14;refine(Sp _ (Ci L) _ _ qZ.o kY.o (by rw[L7];omega)).mono ?_;rintro e w5 ⟨rfl,y5⟩;replace hS:=Z (hS.o.keep y5);obtain⟨o0,o1,o2⟩:=hS.o.ko.c3;obtain⟨x0,x1,x2,f0,f1,f2⟩:=hS.o.kr.x3)
   |(go_at_call 44;refine(Mo _ _).mono ?_;rintro e w' ⟨rfl,rfl⟩))
  all_goals go_wp2
  all_goals
   obtain⟨⟨e0,e1,e2⟩,aE⟩:=(hS.o.done).fin;exact bodyPost_ret (v:=.tuple #[.agg #[.slice p1 p2 p3,.slice q1 q2 q3,.slice r1 r2 r3],.string (BY (CE ⟨#[59]⟩ (Ci L)))]) (by simp[results,results13,go_sem,e0,e1,e2]) rfl (by rw[Hr.o];exact aE _)
 ·go_wp2_with fail;refine(Mz 51 (.inl rfl) _ _ k.rows k.cols _ hS.o.rd.r hS.o.rd.c).mono ?_;obtain⟨L,hL⟩:∃L,M2 k.rows k.cols=L:=⟨_,rfl⟩;have aN:L.length≤1073741824:=by rw[←hL];exact PB _ _
  have kY:=Z (IZ aN);rintro e w3 ⟨vl,rfl,oK,y3⟩;have hG:=oK;rw[hL]at hG;rw[hL];have Hr:=Z hL;obtain⟨l1,l2,rfl,j6⟩:=id hG;replace hS:=Z (hS.o.keep y3);have HG:=Z (show Gv w3.drew _ L from hG);clear c0 c1 c2 o0 o1 o2 x0 x1 x2 f0 f1 f2 hL j6 hG;obtain⟨o0,o1,o2⟩:=hS.o.ko.c3;obtain⟨x0,x1,x2,f0,f1,f2⟩:=hS.o.kr.x3;replace hS:=Z hS.o.drew;go_wp2;go_region_with (first
   |(go_at_call 49;refine(Oh _ L _ HG.o aN).mono ?_;rintro e w4 ⟨vs,rfl,os,y4⟩;replace hS:=Z (hS.o.keep y4);have qZ:=Z os.strs;obtain⟨o0,o1,o2⟩:=hS.o.ko.c3;obtain⟨x0,x1,x2,f0,f1,f2⟩:=hS.o.kr.x3)
   |(go_at_call 14;refine(Sp _ (Ci L) _ _ qZ.o kY.o (by rw[L7];omega)).mono ?_;rintro e w5 ⟨rfl,y5⟩;replace hS:=Z (hS.o.keep y5);obtain⟨o0,o1,o2⟩:=hS.o.ko.c3;obtain⟨x0,x1,x2,f0,f1,f2⟩:=hS.o.kr.x3)
   |(go_at_call 44;refine(Mo _ _).mono ?_;rintro e w' ⟨rfl,rfl⟩))
  all_goals go_wp2
  all_goals
   obtain⟨⟨e0,e1,e2⟩,aE⟩:=(hS.o.done).fin;exact bodyPost_ret (v:=.tuple #[.agg #[.slice p1 p2 p3,.slice q1 q2 q3,.slice r1 r2 r3],.string (BY (CE ⟨#[59]⟩ (Ci L)))]) (by simp[results,results13,go_sem,e0,e1,e2]) rfl (by rw[Hr.o];exact aE _)

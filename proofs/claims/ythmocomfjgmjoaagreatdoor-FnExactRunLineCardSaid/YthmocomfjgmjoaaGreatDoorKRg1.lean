/- RunLine of the program: show, build, least, fixed. -/
import Derived.Test.YthmocomfjgmjoaaGreatDoorQ35
set_option maxHeartbeats 16000000
set_option maxRecDepth 100000
namespace Go.Proofs.YthmocomfjgmjoaaGreatDoor
open Go.RowKit Go.Proofs.Tryz
theorem Jt(a b c:Value)(k:BU)(s:ByteArray)(r:BU×ByteArray)(w:World)(h:BV w a b c k)(hs:BL k)(ht:Ck w)(aO:AM s 32=[s])(hc:(s=⟨#[115,104,111,119]⟩∧r=(k,BY (Cj k.img)))∨(s=⟨#[98,117,105,108,100]⟩∧r=(Fp k (DU k.rows k.cols)))∨(s=⟨#[108,101,97,115,116]⟩∧r=(Fp k (DW k.rows k.cols)))∨(s=⟨#[102,105,120,101,100]⟩∧r=(k,BY (Eh k.rows k.cols)))):Calls prog 13 #[.agg #[a,b,c],.string s] w (Dd w r):=by
 rcases hc with⟨rfl,rfl⟩|⟨rfl,rfl⟩|⟨rfl,rfl⟩|⟨rfl,rfl⟩
 all_goals
  obtain⟨⟨a1,a2,a3,rfl⟩,⟨b1,b2,b3,rfl⟩,⟨d1,d2,d3,rfl⟩⟩:=h.shape;have ap:=B9.keep (B9.new w #[.slice a1 a2 a3,.slice b1 b2 b3,.slice d1 d2 d3] 34) (Below.qab _ (.cells BS 34));have bu:Below w.heap.size w ((w.alloc (.cells #[.slice a1 a2 a3,.slice b1 b2 b3,.slice d1 d2 d3] 34)).alloc (.cells BS 34)):=((A6 _ _).alloc (A2 _) _).alloc (by simp) _;have HC:=Z (h.keep bu);have Hh:=Z h;have Hs:=Z hs;have Ht:=Z ht;have c0:=ap.cell 0;have c1:=ap.cell 1;have c2:=ap.cell 2;simp only[Av,Aw,AB]at c0 c1 c2;clear h hs bu ap ht;have eG:=Z aO;clear aO;go_enter func13,ntmps13;go_wp2_with fail;refine(Co _ _ _ k _ HC.o Hs.o).mono ?_;rintro e w1 ⟨va,vb,vc,rfl,ho,y1⟩;obtain⟨⟨p1,p2,p3,rfl⟩,⟨q1,q2,q3,rfl⟩,⟨r1,r2,r3,rfl⟩⟩:=ho.rd.shape;have St:=Z (EF.start rfl Hh.o y1 ho);clear ho y1 c0 c1 c2;go_wp2_with fail;refine(Do _ 32 _ (by decide)).mono ?_;rintro e w2 ⟨vw,rfl,ow,y2⟩;rw[eG.o]at ow;obtain⟨gw,cw,rfl,hgw,dt,-,-⟩:=ow.qac (by decide);have hS:=Z (St.o.keep y2);have Hw:=Z ow.strs;have w0:=CX.at0 Hw.o (k:=0) rfl;have oJ:1≤cw:=dt;clear ow y2 St;obtain⟨P,hP⟩:∃P,(if cw=1 then(some ⟨gw,0,none⟩:Option Addr)else some ⟨gw,1,none⟩)=P:=⟨_,rfl⟩;obtain⟨c0,c1,c2⟩:=hS.o.kc.c3;obtain⟨o0,o1,o2⟩:=hS.o.ko.c3;obtain⟨x0,x1,x2,f0,f1,f2⟩:=hS.o.kr.x3;have hT:=Z (Ht.o.keep hS.o.base);go_wp2;refine wp_loop_rounds 1 ?_;rw[rounds_succ]
 ·replace hS:=Z hS.o.drew;replace hT:=Z (hT.o.keep (A6 _ _).drew);go_wp2;go_region_with (first
   |(go_at_call 45;refine(Wh _ k.img _ hS.o.rd.m hT.o.1).mono ?_;rintro e w3 ⟨rfl,y3⟩;replace hS:=Z (hS.o.keep y3);obtain⟨o0,o1,o2⟩:=hS.o.ko.c3;obtain⟨x0,x1,x2,f0,f1,f2⟩:=hS.o.kr.x3)
   |(go_at_call 44;refine(Mo _ _).mono ?_;rintro e w' ⟨rfl,rfl⟩))
  all_goals go_wp2
  all_goals
   obtain⟨⟨e0,e1,e2⟩,aE⟩:=(hS.o.done).fin;exact bodyPost_ret (v:=.tuple #[.agg #[.slice p1 p2 p3,.slice q1 q2 q3,.slice r1 r2 r3],.string (BY (Cj k.img))]) (by simp[results,results13,go_sem,e0,e1,e2]) rfl (aE _)
 ·go_wp2_with fail;refine(VO _ _ k.rows k.cols _ hS.o.rd.r hS.o.rd.c).mono ?_;obtain⟨o,ho⟩:∃o,DU k.rows k.cols=o:=⟨_,rfl⟩;rw[ho];rintro e w3 ⟨mv,rfl,om,y3⟩;obtain⟨m1,m2,m3,rfl⟩:=om.shape;have d7:w2.heap.size≤w3.heap.size:=y3.size;have hs2:w1.heap.size<w2.heap.size:=hS.o.ko.lt;replace hS:=Z (hS.o.keep y3);clear c0 c1 c2 o0 o1 o2 x0 x1 x2 f0 f1 f2;cases o with
  |none=>
   have Hr:=Z (show Fp k (DU k.rows k.cols)=(k,C7)from by rw[ho];rfl);clear om ho;go_wp2_with fail;refine(YR w1.heap.size _ _ _ _ _ _ _ _ _ _ _ _ _ hS.o.ko).mono ?_;rintro e w4 ⟨rfl,y4⟩;replace hS:=Z (hS.o.keep y4);obtain⟨x0,x1,x2,f0,f1,f2⟩:=hS.o.kr.x3;go_wp2;obtain⟨⟨e0,e1,e2⟩,aE⟩:=(hS.o.done).fin;exact bodyPost_ret (v:=.tuple #[.agg #[.slice p1 p2 p3,.slice q1 q2 q3,.slice r1 r2 r3],.string C7]) (by simp[results,results13,go_sem,e0,e1,e2,C7]) rfl (by rw[Hr.o];exact aE _)
  |some m=>
   have Hr:=Z (show Fp k (DU k.rows k.cols)=(⟨m,k.rows,k.cols⟩,AD m)from by rw[ho];rfl);have Om:=Z (show Ag 32 (Ag 3 Ap) (Iv w2.heap.size w3.heap.size) w3 (.slice m1 m2 m3) m from om);clear om ho;go_wp2_with fail;refine(Vq w1.heap.size w2.heap.size w3.heap.size _ _ _ _ _ _ _ _ _ _ _ _ m _ hS.o.ko Om.o (A2 _) (.inl (by omega))).mono ?_;rintro e w4 ⟨rfl,on⟩;have hE:=Z (hS.o.put Om.o hs2 (A2 _) on);obtain⟨x0,x1,x2,f0,f1,f2⟩:=hE.o.kr.x3;go_wp2;obtain⟨⟨e0,e1,e2⟩,aE⟩:=(hE.o).fin;exact bodyPost_ret (v:=.tuple #[.agg #[.slice m1 m2 m3,.slice q1 q2 q3,.slice r1 r2 r3],.string (AD m)]) (by simp[results,results13,go_sem,e0,e1,e2]) rfl (by rw[Hr.o];exact aE _)
 ·go_wp2_with fail;refine(VR _ _ k.rows k.cols _ hS.o.rd.r hS.o.rd.c).mono ?_;obtain⟨o,ho⟩:∃o,DW k.rows k.cols=o:=⟨_,rfl⟩;rw[ho];rintro e w3 ⟨mv,rfl,om,y3⟩;obtain⟨m1,m2,m3,rfl⟩:=om.shape;have d7:w2.heap.size≤w3.heap.size:=y3.size;have hs2:w1.heap.size<w2.heap.size:=hS.o.ko.lt;replace hS:=Z (hS.o.keep y3);clear c0 c1 c2 o0 o1 o2 x0 x1 x2 f0 f1 f2;cases o with
  |none=>
   have Hr:=Z (show Fp k (DW k.rows k.cols)=(k,C7)from by rw[ho];rfl);clear om ho;go_wp2_with fail;refine(YR w1.heap.size _ _ _ _ _ _ _ _ _ _ _ _ _ hS.o.ko).mono ?_;rintro e w4 ⟨rfl,y4⟩;replace hS:=Z (hS.o.keep y4);obtain⟨x0,x1,x2,f0,f1,f2⟩:=hS.o.kr.x3;go_wp2;obtain⟨⟨e0,e1,e2⟩,aE⟩:=(hS.o.done).fin;exact bodyPost_ret (v:=.tuple #[.agg #[.slice p1 p2 p3,.slice q1 q2 q3,.slice r1 r2 r3],.string C7]) (by simp[results,results13,go_sem,e0,e1,e2,C7]) rfl (by rw[Hr.o];exact aE _)
  |some m=>
   have Hr:=Z (show Fp k (DW k.rows k.cols)=(⟨m,k.rows,k.cols⟩,AD m)from by rw[ho];rfl);have Om:=Z (show Ag 32 (Ag 3 Ap) (Iv w2.heap.size w3.heap.size) w3 (.slice m1 m2 m3) m from om);clear om ho;go_wp2_with fail;refine(Vq w1.heap.size w2.heap.size w3.heap.size _ _ _ _ _ _ _ _ _ _ _ _ m _ hS.o.ko Om.o (A2 _) (.inl (by omega))).mono ?_;rintro e w4 ⟨rfl,on⟩;have hE:=Z (hS.o.put Om.o hs2 (A2 _) on);obtain⟨x0,x1,x2,f0,f1,f2⟩:=hE.o.kr.x3;go_wp2;obtain⟨⟨e0,e1,e2⟩,aE⟩:=(hE.o).fin;exact bodyPost_ret (v:=.tuple #[.agg #[.slice m1 m2 m3,.slice q1 q2 q3,.slice r1 r2 r3],.string (AD m)]) (by simp[results,results13,go_sem,e0,e1,e2]) rfl (by rw[Hr.o];exact aE _)
 ·replace hS:=Z hS.o.drew;replace hT:=Z (hT.o.keep (A6 _ _).drew);go_wp2;go_region_with (first
   |(go_at_call 50;refine(XB _ _ k.rows k.cols _ hS.o.rd.r hS.o.rd.c).mono ?_;rintro e w3 ⟨rfl,y3⟩;replace hS:=Z (hS.o.keep y3);obtain⟨o0,o1,o2⟩:=hS.o.ko.c3;obtain⟨x0,x1,x2,f0,f1,f2⟩:=hS.o.kr.x3)
   |(go_at_call 44;refine(Mo _ _).mono ?_;rintro e w' ⟨rfl,rfl⟩))
  all_goals go_wp2
  all_goals
   obtain⟨⟨e0,e1,e2⟩,aE⟩:=(hS.o.done).fin;exact bodyPost_ret (v:=.tuple #[.agg #[.slice p1 p2 p3,.slice q1 q2 q3,.slice r1 r2 r3],.string (BY (Eh k.rows k.cols))]) (by simp[results,results13,go_sem,e0,e1,e2]) rfl (aE _)

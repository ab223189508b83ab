/- Base. -/
import Derived.Test.YthmocomfjgmjoaaGreatDoorKV1
import Derived.Test.YthmocomfjgmjoaaGreatDoorQ29
import Derived.Test.YthmocomfjgmjoaaGreatDoorQ30
set_option maxHeartbeats 4000000
set_option maxRecDepth 100000
namespace Go.Proofs.YthmocomfjgmjoaaGreatDoor
open Go.RowKit Go.Proofs.Tryz
theorem Sg(S:Bk)(a b c:Value)(k:BU)(m1:Option Addr)(m2 m3:Nat)(m:I)(w:World)(h:Cx S w a b c k)(aq:∀x,S x→x<w.heap.size)(hs:BL k)(ht:Ck w)(T:Bk)(sU:∀x,T x→x<w.heap.size)(om:Ag 32 (Ag 3 Ap) T w (.slice m1 m2 m3) m):Calls prog 65 #[.agg #[a,b,c],.string Db,.slice m1 m2 m3] w (Df T w (⟨m,Ae m,Al m⟩,okB)):=by
 obtain⟨⟨a1,a2,a3,rfl⟩,⟨b1,b2,b3,rfl⟩,⟨d1,d2,d3,rfl⟩⟩:=h.rd.shape;have hS:=Z (Du.start h aq);have Hs:=Z hs;have hT:=Z (ht.keep hS.o.base);obtain⟨c0,c1,c2⟩:=hS.o.cc;obtain⟨x0,x1,x2,f0,f1,f2⟩:=hS.o.xc;clear h aq hs ht;have Om:=Z ((Ab (Ab A8)).same (Ac hS.o.base sU) om);have uR:=Z sU;clear Hs hT om sU;unfold Db;go_enter func65,ntmps65;go_wp2_with fail;refine(FSa _ m _ Om.o.qag).mono ?_;rintro e w3 ⟨vr,rfl,orr,y3⟩;obtain⟨l1,l2,l3,rfl⟩:=orr.shape;have fZ:w.heap.size+1<((w.alloc (.cells #[.slice a1 a2 a3,.slice b1 b2 b3,.slice d1 d2 d3] 34)).alloc (.cells BS 34)).heap.size:=hS.o.kr.lt;have d7:=y3.size;replace Om:=Z ((Ab (Ab A8)).same (Ac y3 fun x hx=>by have:=uR.o x hx;omega) Om.o);replace hS:=Z (hS.o.keep y3);have Hr:=Z orr;clear c0 c1 c2 x0 x1 x2 f0 f1 f2 orr y3;go_wp2_with fail;refine(CQ 141 (.inr rfl) _ m _ Om.o.qag).mono ?_;rintro e w4 ⟨vc,rfl,occ,y4⟩;obtain⟨n1,n2,n3,rfl⟩:=occ.shape;have l7:=y4.size;replace Om:=Z ((Ab (Ab A8)).same (Ac y4 fun x hx=>by have:=uR.o x hx;omega) Om.o);replace hS:=Z (hS.o.keep y4);replace Hr:=Z (Ag.keep A8 Hr.o y4 (A2 _));have hE:Nv T w w4 (.slice m1 m2 m3) (.slice l1 l2 l3) (.slice n1 n2 n3) ⟨m,Ae m,Al m⟩:=by
  refine⟨hS.o.base,hS.o.kr,⟨T,Iv ((w.alloc (.cells #[.slice a1 a2 a3,.slice b1 b2 b3,.slice d1 d2 d3] 34)).alloc (.cells BS 34)).heap.size w3.heap.size,Iv w3.heap.size w4.heap.size,fun x hx=>.inl hx,?_,?_,?_,?_,?_,Om.o,Hr.o,occ⟩,uR.o⟩
  ·intro x hx;have:=hx.1;have:=hx.2;exact .inr ⟨J,J⟩
  ·intro x hx;have:=hx.1;have:=hx.2;exact .inr ⟨J,J⟩
  ·intro x hx hy;have:=uR.o x hx;have:=hy.1;omega
  ·intro x hx hy;have:=uR.o x hx;have:=hy.1;omega
  ·intro x hx hy;have:=hx.2;have:=hy.1;omega
 have HE:=Z hE;clear occ y4 hE Om Hr;obtain⟨x0,x1,x2,f0,f1,f2⟩:=hS.o.xc;go_wp2;obtain⟨⟨e0,e1,e2⟩,aE⟩:=(HE.o).fin;exact Jz #[.agg #[.slice m1 m2 m3,.slice l1 l2 l3,.slice n1 n2 n3],.string okB] (by simp[results,results65,go_sem,e0,e1,e2,okB]) (aE _)
theorem Tz(S:Bk)(a b c:Value)(k:BU)(m1:Option Addr)(m2 m3:Nat)(m:I)(w:World)(h:Cx S w a b c k)(aq:∀x,S x→x<w.heap.size)(hs:BL k)(ht:Ck w)(hm:AI w (.slice m1 m2 m3) m):Calls prog 65 #[.agg #[a,b,c],.string Ej,.slice m1 m2 m3] w (Df S w (k,Lg k.img m)):=by
 obtain⟨⟨a1,a2,a3,rfl⟩,⟨b1,b2,b3,rfl⟩,⟨d1,d2,d3,rfl⟩⟩:=h.rd.shape;have hS:=Z (Du.start h aq);have Hs:=Z hs;have hT:=Z (ht.keep hS.o.base);obtain⟨c0,c1,c2⟩:=hS.o.cc;obtain⟨x0,x1,x2,f0,f1,f2⟩:=hS.o.xc;clear h aq hs ht;replace hS:=Z hS.o.drew;replace hT:=Z (hT.o.keep (A6 _ _).drew);have Hm:=Z (hm.keep hS.o.base);clear Hs hm;unfold Ej;go_enter func65,ntmps65;go_wp2;go_region_with (go_at_call 142;refine(Y6 _ _ k.img m _ hS.o.rd.m Hm.o).mono ?_;rintro e w3 ⟨T,rfl,d5,y3⟩;have HP:=Z (UL d5);clear d5;replace hS:=Z (hS.o.keep y3);obtain⟨c0,c1,c2⟩:=hS.o.cc;obtain⟨x0,x1,x2,f0,f1,f2⟩:=hS.o.xc)
 all_goals go_wp2
 all_goals
  obtain⟨⟨e0,e1,e2⟩,aE⟩:=(hS.o.done).fin;exact Jz #[.agg #[.slice a1 a2 a3,.slice b1 b2 b3,.slice d1 d2 d3],.string T] (by simp[results,results65,go_sem,e0,e1,e2]) (by rw[HP.o];exact aE _)
theorem Tt(S:Bk)(a b c:Value)(k:BU)(m1:Option Addr)(m2 m3:Nat)(m:I)(w:World)(h:Cx S w a b c k)(aq:∀x,S x→x<w.heap.size)(hs:BL k)(ht:Ck w)(hm:AI w (.slice m1 m2 m3) m)(hok:AC m=true):Calls prog 65 #[.agg #[a,b,c],.string EH,.slice m1 m2 m3] w (Df S w (OM k m)):=by
 obtain⟨⟨a1,a2,a3,rfl⟩,⟨b1,b2,b3,rfl⟩,⟨d1,d2,d3,rfl⟩⟩:=h.rd.shape;have hS:=Z (Du.start h aq);have Hs:=Z hs;have hT:=Z (ht.keep hS.o.base);obtain⟨c0,c1,c2⟩:=hS.o.cc;obtain⟨x0,x1,x2,f0,f1,f2⟩:=hS.o.xc;clear h aq hs ht;have Hm:=Z (hm.keep hS.o.base);have aR:=Z hok;clear Hs hm hok;unfold EH;go_enter func65,ntmps65;go_wp2_with fail;obtain⟨ir,ic,hr1,hr5,hc1,hc5,an⟩:=Az aR.o;refine(Sr _ _ _ k.rows k.cols m ir ic _ hS.o.rd.r hS.o.rd.c Hm.o an hr1 hr5 hc1 hc5).mono ?_;clear hr1 hr5 hc1 hc5 an ir ic;rintro e w4 ⟨vm,nn,rfl,om,lj,y4⟩;obtain⟨o,ho⟩:∃o,Fk k.rows k.cols m=o:=⟨_,rfl⟩;have gg:=Z (XS k m ho);have jz:∀x,o=some x→Cc (BR k.rows.length k.cols.length x m):=fun x hx=>Wu (by rw[ho,hx]);rw[ho]at om lj;rw[ho];obtain⟨l1,l2,l3,rfl⟩:=om.shape;replace hS:=Z (hS.o.keep y4);replace hT:=Z (hT.o.keep y4);clear ho Hm c0 c1 c2 x0 x1 x2 f0 f1 f2;cases o with
 |none=>
  clear om lj jz;have Hr:=Z (show OM k m=(k,C7)from gg.o);clear gg;obtain⟨c0,c1,c2⟩:=hS.o.cc;obtain⟨x0,x1,x2,f0,f1,f2⟩:=hS.o.xc;go_wp2;obtain⟨⟨e0,e1,e2⟩,aE⟩:=(hS.o.done).fin;exact Jz #[.agg #[.slice a1 a2 a3,.slice b1 b2 b3,.slice d1 d2 d3],.string C7] (by simp[results,results65,go_sem,e0,e1,e2,C7]) (by rw[Hr.o];exact aE _)
 |some x=>
  obtain rfl:=lj x rfl;have qj:=jz x rfl;clear jz;have Hr:=Z (show OM k m=(k,AD x++⟨#[32]⟩++AQ (BR k.rows.length k.cols.length x m))from gg.o);clear gg;obtain⟨D,hD⟩:∃D,BR k.rows.length k.cols.length x m=D:=⟨_,rfl⟩;rw[hD]at Hr qj;rw[hD];have HG:=Z (show AI w4.drew (.slice l1 l2 l3) x from om.qag.keep (A6 _ _).drew);obtain⟨sa,sb,sc⟩:=YJ x qj;clear om lj hD;obtain⟨c0,c1,c2⟩:=hS.o.cc;obtain⟨x0,x1,x2,f0,f1,f2⟩:=hS.o.xc;replace hS:=Z hS.o.drew;go_wp2;go_region_with (first
   |(go_at_call 139;(with_reducible refine(EK _ x _ HG.o).mono ?_);rintro e w5 ⟨rfl,y5⟩;replace hS:=Z (hS.o.keep y5);obtain⟨c0,c1,c2⟩:=hS.o.cc;obtain⟨x0,x1,x2,f0,f1,f2⟩:=hS.o.xc)
   |(go_at_call 144;(with_reducible refine(Dx D qj _).mono ?_);rintro e w6 ⟨rfl,y6⟩;replace hS:=Z (hS.o.keep y6);obtain⟨c0,c1,c2⟩:=hS.o.cc;obtain⟨x0,x1,x2,f0,f1,f2⟩:=hS.o.xc))
  all_goals go_wp2
  all_goals
   obtain⟨⟨e0,e1,e2⟩,aE⟩:=(hS.o.done).fin;exact Jz #[.agg #[.slice a1 a2 a3,.slice b1 b2 b3,.slice d1 d2 d3],.string (AD x++⟨#[32]⟩++AQ D)] (by simp[results,results65,go_sem,e0,e1,e2]) (by rw[Hr.o];exact aE _)
theorem Df.wide{S S':Bk}{w:World}{r:BU×ByteArray}(hs:∀x,S x→S' x){e:Ending}{w':World}(h:Df S w r e w'):Df S' w r e w':=by
 obtain⟨a,b,c,he,o,y⟩:=h;exact⟨a,b,c,he,o.mono fun x hx=>hx.imp (hs x) id,y⟩
theorem YX(S T:Bk)(a b c:Value)(k:BU)(s:ByteArray)(m1:Option Addr)(m2 m3:Nat)(m:I)(w:World)(h:Cx S w a b c k)(aq:∀x,S x→x<w.heap.size)(hs:BL k)(ht:Ck w)(sU:∀x,T x→x<w.heap.size)
  (om:Ag 32 (Ag 3 Ap) T w (.slice m1 m2 m3) m)(hok:AC m=true)(hw:Gh s=true):Calls prog 65 #[.agg #[a,b,c],.string s,.slice m1 m2 m3] w (Df (fun x=>S x∨T x) w (DS k s m)):=by
 by_cases h1:s=Db
 ·subst h1;rw[show DS k Db m=(⟨m,Ae m,Al m⟩,okB)from by unfold DS;rw[if_pos rfl]];exact(Sg S a b c k m1 m2 m3 m w h aq hs ht T sU om).mono fun e w' hr=>hr.wide fun x hx=>.inr hx
 by_cases h2:s=Ej
 ·subst h2;rw[show DS k Ej m=(k,Lg k.img m)from by unfold DS;rw[if_neg h1,if_pos rfl]];exact(Tz S a b c k m1 m2 m3 m w h aq hs ht om.qag).mono fun e w' hr=>hr.wide fun x hx=>.inl hx
 have h3:s=EH:=by
  unfold Gh at hw;simpa[h1,h2]using hw
 subst h3;rw[show DS k EH m=OM k m from by unfold DS;rw[if_neg h1,if_neg h2];rfl];exact(Tt S a b c k m1 m2 m3 m w h aq hs ht om.qag hok).mono fun e w' hr=>hr.wide fun x hx=>.inl hx

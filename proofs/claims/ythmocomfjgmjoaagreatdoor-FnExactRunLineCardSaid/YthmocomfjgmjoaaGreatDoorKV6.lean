/- Base. -/
import Derived.Test.YthmocomfjgmjoaaGreatDoorKV1
set_option maxHeartbeats 4000000
set_option maxRecDepth 100000
namespace Go.Proofs.YthmocomfjgmjoaaGreatDoor
open Go.RowKit Go.Proofs.Tryz
variable {S:Bk}{W W':World}{a b c:Value}{k:BU}{s:Nat}{v:Value}{w:World}{xs:U}
structure Io(S:Bk)(w W:World)(a b c:Value)(k:BU):Prop where
 base:Below w.heap.size w W
 kc:B9 W w.heap.size #[a,b,c] 34
 kr:B9 W (w.heap.size+1) BS 34
 own:Cx (fun x=>S x∨(w.heap.size+2≤x∧x<W.heap.size)) W a b c k
 hS:∀x,S x→x<w.heap.size
theorem Du.mid(h:Du S w W a b c k):Io S w W a b c k:=⟨h.base,h.kc,h.kr,h.own.mono fun _ hx=>.inl hx,h.hS⟩
theorem Io.done(h:Io S w W a b c k):Nv S w W a b c k:=⟨h.base,h.kr,h.own,h.hS⟩
theorem Io.lt(h:Io S w W a b c k):∀x,(S x∨(w.heap.size+2≤x∧x<W.heap.size))→x<W.heap.size:=fun x hx=>by
 rcases hx with hx|hx
 ·have:=h.hS x hx;have:=h.kc.lt;omega
 ·exact hx.2
theorem Io.ne(h:Io S w W a b c k):∀x,(S x∨(w.heap.size+2≤x∧x<W.heap.size))→x≠w.heap.size:=fun x hx=>by
 rcases hx with hx|hx
 ·have:=h.hS x hx;omega
 ·omega
theorem Io.keep(h:Io S w W a b c k)(y:Below W.heap.size W W'):Io S w W' a b c k:=
 ⟨h.base.qaa y (A2 _),h.kc.keep y,h.kr.keep y,(h.own.same (Ac y h.lt)).mono fun _ hx=>hx.imp id fun hx=>⟨hx.1,Aa hx.2 y.size⟩,h.hS⟩
theorem Io.rows(h:Io S w W a b c k)(o:Ag 3 Ap (Iv W.heap.size W'.heap.size) W' v xs)(y:Below W.heap.size W W'):
  Io S w (W'.setCell ⟨w.heap.size,1,none⟩ v) a v c ⟨k.img,xs,k.cols⟩:=by
 obtain⟨Sa,Sb,Sc,s1,s2,s3,d1,d2,d3,o1,o2,o3⟩:=h.own;have hk:=h.kr.lt;have aM:(W'.setCell ⟨w.heap.size,1,none⟩ v).heap.size=W'.heap.size:=As _ _ _;have sm:∀x,x≠w.heap.size→(W'.setCell ⟨w.heap.size,1,none⟩ v).heap[x]? =W'.heap[x]? :=fun x hx=>Below.heap_setCell W' _ _ x hx;have up:∀x,(S x∨(w.heap.size+2≤x∧x<W.heap.size))→(S x∨(w.heap.size+2≤x∧x<(W'.setCell ⟨w.heap.size,1,none⟩ v).heap.size)):=fun x hx=>hx.imp id fun hx=>⟨hx.1,by rw[aM];exact Aa hx.2 y.size⟩;refine⟨(h.base.qaa y (A2 _)).setCell (A2 _) _,?_,(h.kr.keep y).qah J _,⟨Sa,Iv W.heap.size W'.heap.size,Sc,fun x hx=>up x (s1 x hx),?_,fun x hx=>up x (s3 x hx),?_,d2,?_,?_,?_,?_⟩,h.hS⟩
 ·have:=(h.kc.keep y).set (j:=1) v;simpa using this
 ·intro x hx;have:=hx.1;exact .inr ⟨J,by rw[aM];exact hx.2⟩
 ·intro x hx hy;have:=h.lt x (s1 x hx);have:=hy.1;omega
 ·intro x hx hy;have:=h.lt x (s3 x hy);have:=hx.1;omega
 ·exact(Ab (Ab A8)).same (fun x hx=>sm x (h.ne x (s1 x hx))) ((Ab (Ab A8)).same (Ac y fun x hx=>h.lt x (s1 x hx)) o1)
 ·exact(Ab A8).same (fun x hx=>sm x (by have:=hx.1;omega)) o
 ·exact(Ab A8).same (fun x hx=>sm x (h.ne x (s3 x hx))) ((Ab A8).same (Ac y fun x hx=>h.lt x (s3 x hx)) o3)
theorem Io.cols{ys:U}(h:Io S w W a b c k)(o:Ag 3 Ap (Iv W.heap.size W'.heap.size) W' v ys)(y:Below W.heap.size W W'):
  Io S w (W'.setCell ⟨w.heap.size,2,none⟩ v) a b v ⟨k.img,k.rows,ys⟩:=by
 obtain⟨Sa,Sb,Sc,s1,s2,s3,d1,d2,d3,o1,o2,o3⟩:=h.own;have hk:=h.kr.lt;have aM:(W'.setCell ⟨w.heap.size,2,none⟩ v).heap.size=W'.heap.size:=As _ _ _;have sm:∀x,x≠w.heap.size→(W'.setCell ⟨w.heap.size,2,none⟩ v).heap[x]? =W'.heap[x]? :=fun x hx=>Below.heap_setCell W' _ _ x hx;have up:∀x,(S x∨(w.heap.size+2≤x∧x<W.heap.size))→(S x∨(w.heap.size+2≤x∧x<(W'.setCell ⟨w.heap.size,2,none⟩ v).heap.size)):=fun x hx=>hx.imp id fun hx=>⟨hx.1,by rw[aM];exact Aa hx.2 y.size⟩;refine⟨(h.base.qaa y (A2 _)).setCell (A2 _) _,?_,(h.kr.keep y).qah J _,⟨Sa,Sb,Iv W.heap.size W'.heap.size,fun x hx=>up x (s1 x hx),fun x hx=>up x (s2 x hx),?_,d1,?_,?_,?_,?_,?_⟩,h.hS⟩
 ·have:=(h.kc.keep y).set (j:=2) v;simpa using this
 ·intro x hx;have:=hx.1;exact .inr ⟨J,by rw[aM];exact hx.2⟩
 ·intro x hx hy;have:=h.lt x (s1 x hx);have:=hy.1;omega
 ·intro x hx hy;have:=h.lt x (s2 x hx);have:=hy.1;omega
 ·exact(Ab (Ab A8)).same (fun x hx=>sm x (h.ne x (s1 x hx))) ((Ab (Ab A8)).same (Ac y fun x hx=>h.lt x (s1 x hx)) o1)
 ·exact(Ab A8).same (fun x hx=>sm x (h.ne x (s2 x hx))) ((Ab A8).same (Ac y fun x hx=>h.lt x (s2 x hx)) o2)
 ·exact(Ab A8).same (fun x hx=>sm x (by have:=hx.1;omega)) o
theorem SA(e:w.heap.size=s)(o:Ag 3 Ap (fun b=>Iv s (w.alloc (.cells #[] 3)).heap.size b∨((w.alloc (.cells #[] 3)).heap.size≤b∧b<W.heap.size)) W v ([]++xs))
  (h:AO (fun b=>(Value.slice (some ⟨s,0,none⟩) 0 0).ownBlock=some b) (w.alloc (.cells #[] 3)) W):Ag 3 Ap (Iv w.heap.size W.heap.size) W v xs∧Below w.heap.size w W:=by
 subst e;have hz:(w.alloc (.cells #[] 3)).heap.size=w.heap.size+1:=Jj;have hs:=h.size;refine⟨?_,(Below.qab w (.cells #[] 3)).trans (h.below J fun b hb=>by simp[Value.ownBlock]at hb;omega)⟩;rw[List.nil_append]at o;exact(Ab A8).mono (fun b hb=>hb.elim (fun h=>⟨h.1,by have:=h.2;omega⟩) (fun h=>⟨by have:=h.1;omega,h.2⟩)) o
theorem XP(e:w.heap.size=s):Ag 3 Ap (Iv s (w.alloc (.cells #[] 3)).heap.size) (w.alloc (.cells #[] 3)) (.slice (some ⟨s,0,none⟩) 0 0) []:=by
 subst e;exact BK w 3 w.heap.size A8
theorem R4{lo hi j:Nat}{u:Value}(o:Ag 3 Ap (Iv lo hi) W v xs)(h:w.heap.size<lo):Ag 3 Ap (Iv lo hi) (W.setCell ⟨w.heap.size,j,none⟩ u) v xs:=
 (Ab A8).same (fun x hx=>Below.heap_setCell W _ _ x (by have:=hx.1;simp;omega)) o
theorem Rc(S:Bk)(a b c:Value)(k:BU)(ta tb:ByteArray)(w:World)(h:Cx S w a b c k)(aq:∀x,S x→x<w.heap.size)(hs:BL k)(ht:Ck w)(se:ta.size≤1048576)(dr:tb.size≤1048576)(z1 z2:Bool)(h1:C6 ta=z1)(h2:C6 tb=z2)(hz:(z1&&z2)=false):Calls prog 66 #[.agg #[a,b,c],.string ta,.string tb] w (Df S w (k,Bq)):=by
 obtain⟨⟨a1,a2,a3,rfl⟩,⟨b1,b2,b3,rfl⟩,⟨d1,d2,d3,rfl⟩⟩:=h.rd.shape;have hS:=Z (Du.start h aq);have Hs:=Z hs;have hT:=Z (ht.keep hS.o.base);obtain⟨c0,c1,c2⟩:=hS.o.cc;obtain⟨x0,x1,x2,f0,f1,f2⟩:=hS.o.xc;clear h aq hs ht;have xw:=Z h1;have xx:=Z h2;clear h1 h2;clear Hs;go_enter func66,ntmps66;go_wp2_with fail;refine(JG ta _ se).mono ?_;rw[show Di ((w.alloc (.cells #[.slice a1 a2 a3,.slice b1 b2 b3,.slice d1 d2 d3] 34)).alloc (.cells BS 34)) ta=fun e w'=>∃v',e=.returned (.tuple #[v',.bool z1])∧Ag 3 Ap (Iv ((w.alloc (.cells #[.slice a1 a2 a3,.slice b1 b2 b3,.slice d1 d2 d3] 34)).alloc (.cells BS 34)).heap.size w'.heap.size) w' v' (AY ta)∧Below ((w.alloc (.cells #[.slice a1 a2 a3,.slice b1 b2 b3,.slice d1 d2 d3] 34)).alloc (.cells BS 34)).heap.size ((w.alloc (.cells #[.slice a1 a2 a3,.slice b1 b2 b3,.slice d1 d2 d3] 34)).alloc (.cells BS 34)) w' from by funext e w';unfold Di;rw[xw.o]];rintro e w3 ⟨vr,rfl,orr,y3⟩;obtain⟨l1,l2,l3,rfl⟩:=orr.shape;replace hS:=Z (hS.o.keep y3);have Hx:=Z orr.ints;replace hT:=Z (hT.o.keep y3);clear c0 c1 c2 x0 x1 x2 f0 f1 f2 orr y3;go_wp2_with fail;refine(JG tb _ dr).mono ?_;rw[show Di w3 tb=fun e w'=>∃v',e=.returned (.tuple #[v',.bool z2])∧Ag 3 Ap (Iv w3.heap.size w'.heap.size) w' v' (AY tb)∧Below w3.heap.size w3 w' from by funext e w';unfold Di;rw[xx.o]];rintro e w4 ⟨vc,rfl,occ,y4⟩;obtain⟨n1,n2,n3,rfl⟩:=occ.shape;replace hS:=Z (hS.o.keep y4);replace Hx:=Z (Hx.o.keep y4);have Hy:=Z occ.ints;replace hT:=Z (hT.o.keep y4);clear occ y4;obtain⟨c0,c1,c2⟩:=hS.o.cc;obtain⟨x0,x1,x2,f0,f1,f2⟩:=hS.o.xc;cases z1<;>cases z2
 rotate_right
 ·simp at hz
 all_goals
  go_wp2;obtain⟨⟨e0,e1,e2⟩,aE⟩:=(hS.o.done).fin;exact Jz #[.agg #[.slice a1 a2 a3,.slice b1 b2 b3,.slice d1 d2 d3],.string Bq] (by simp[results,results66,go_sem,e0,e1,e2,Bq]) (aE _)
theorem Xh(S:Bk)(a b c:Value)(k:BU)(ta tb:ByteArray)(w:World)(h:Cx S w a b c k)(aq:∀x,S x→x<w.heap.size)(hs:BL k)(ht:Ck w)(se:ta.size≤1048576)(dr:tb.size≤1048576)(h1:C6 ta=true)(h2:C6 tb=true)(hla:(AY ta).length≤1048576)(hlb:(AY tb).length≤1048576):Calls prog 66 #[.agg #[a,b,c],.string ta,.string tb] w (Df S w (⟨k.img,AY ta,AY tb⟩,Cy (AY ta) (AY tb))):=by
 obtain⟨⟨a1,a2,a3,rfl⟩,⟨b1,b2,b3,rfl⟩,⟨d1,d2,d3,rfl⟩⟩:=h.rd.shape;have hS:=Z (Du.start h aq);have Hs:=Z hs;have hT:=Z (ht.keep hS.o.base);obtain⟨c0,c1,c2⟩:=hS.o.cc;obtain⟨x0,x1,x2,f0,f1,f2⟩:=hS.o.xc;have Ht0:=Z ht;clear h aq hs ht;have xw:=Z h1;have xx:=Z h2;clear h1 h2 Hs hT;go_enter func66,ntmps66;go_wp2_with fail;refine(JG ta _ se).mono ?_;rw[show Di ((w.alloc (.cells #[.slice a1 a2 a3,.slice b1 b2 b3,.slice d1 d2 d3] 34)).alloc (.cells BS 34)) ta=fun e w'=>∃v',e=.returned (.tuple #[v',.bool true])∧Ag 3 Ap (Iv ((w.alloc (.cells #[.slice a1 a2 a3,.slice b1 b2 b3,.slice d1 d2 d3] 34)).alloc (.cells BS 34)).heap.size w'.heap.size) w' v' (AY ta)∧Below ((w.alloc (.cells #[.slice a1 a2 a3,.slice b1 b2 b3,.slice d1 d2 d3] 34)).alloc (.cells BS 34)).heap.size ((w.alloc (.cells #[.slice a1 a2 a3,.slice b1 b2 b3,.slice d1 d2 d3] 34)).alloc (.cells BS 34)) w' from by funext e w';unfold Di;rw[xw.o]];rintro e w3 ⟨vr,rfl,orr,y3⟩;obtain⟨l1,l2,l3,rfl⟩:=orr.shape;have fZ:w.heap.size+1<((w.alloc (.cells #[.slice a1 a2 a3,.slice b1 b2 b3,.slice d1 d2 d3] 34)).alloc (.cells BS 34)).heap.size:=hS.o.kr.lt;have d7:=y3.size;obtain⟨B0,hB0⟩:∃B,((w.alloc (.cells #[.slice a1 a2 a3,.slice b1 b2 b3,.slice d1 d2 d3] 34)).alloc (.cells BS 34)).heap.size=B:=⟨_,rfl⟩;rw[hB0]at orr fZ d7;replace hS:=Z (hS.o.keep y3);have Ox:=Z orr;clear c0 c1 c2 x0 x1 x2 f0 f1 f2 orr y3 hB0;go_wp2_with fail;refine(JG tb _ dr).mono ?_;rw[show Di w3 tb=fun e w'=>∃v',e=.returned (.tuple #[v',.bool true])∧Ag 3 Ap (Iv w3.heap.size w'.heap.size) w' v' (AY tb)∧Below w3.heap.size w3 w' from by funext e w';unfold Di;rw[xx.o]];rintro e w4 ⟨vc,rfl,occ,y4⟩;obtain⟨n1,n2,n3,rfl⟩:=occ.shape;have l7:=y4.size;replace hS:=Z (hS.o.keep y4);replace Ox:=Z (Ag.keep A8 Ox.o y4 (A2 _));have Oy:=Z occ;clear occ y4;have c1:w4.cell? ⟨w.heap.size,1,none⟩=some (.slice b1 b2 b3):=hS.o.kc.cell 1;have g1:=hS.o.kc.frozen 1;have hM:=Z hS.o.mid;have HxL:=Z (Ox.o.ints.keep (Below.qab w4 (.cells #[] 3)));have fJ:([]:U).length+(AY ta).length≤1099511627776:=by simp;omega
 have jT:([]:U).length+(AY tb).length≤1099511627776:=by simp;omega
 obtain⟨X,hX⟩:∃X,AY ta=X:=⟨_,rfl⟩;obtain⟨Y,hY⟩:∃Y,AY tb=Y:=⟨_,rfl⟩;rw[hX]at Ox HxL fJ hla;rw[hY]at Oy jT hlb;rw[hX,hY];have HX:=Z hX;have HY:=Z hY;clear hX hY se dr hS;go_wp2_with (first
  |(at_builtin;(refine DM rfl _ _ 32 rfl 3 underlying32 Bg rfl (Iv w4.heap.size (w4.alloc (.cells #[] 3)).heap.size) rfl rfl (by exact XP rfl) (by exact HxL.o) fJ ?_);intro v5 w5 aB honly _;obtain⟨oo,yy⟩:=SA rfl aB honly;obtain⟨q1,q2,q3,rfl⟩:=oo.shape;have kw:=hM.o.kc.keep yy;have c1:w5.cell? ⟨w.heap.size,1,none⟩=some (.slice b1 b2 b3):=kw.cell 1;have g1:=kw.frozen 1;have py:=yy.size;have wy:=hM.o.rows oo yy;have ox6:=R4 (j:=1) (u:=.slice q1 q2 q3) (w:=w) (Ag.keep A8 Ox.o yy J) J;have xy:=R4 (j:=1) (u:=.slice q1 q2 q3) (w:=w) (Ag.keep A8 Oy.o yy (A2 _)) J;have z6:(w5.setCell ⟨w.heap.size,1,none⟩ (.slice q1 q2 q3)).heap.size=w5.heap.size:=As _ _ _;have xz:=Z wy;have Ox6:=Z ox6;have Oy6:=Z xy;have HyL:=Z (xy.ints.keep (Below.qab (w5.setCell ⟨w.heap.size,1,none⟩ (.slice q1 q2 q3)) (.cells #[] 3)));have c2:w5.cell? ⟨w.heap.size,2,none⟩=some (.slice d1 d2 d3):=kw.cell 2;have g2:=kw.frozen 2;have sf:(w5.setCell ⟨w.heap.size,1,none⟩ (.slice q1 q2 q3)).cell? ⟨w.heap.size,2,none⟩=some (.slice d1 d2 d3):=wy.kc.cell 2;have g2':=wy.kc.frozen 2;clear aB honly oo yy kw wy ox6 xy)
  |(at_builtin;(refine DM rfl _ _ 32 rfl 3 underlying32 Bg rfl (Iv w5.heap.size ((w5.setCell ⟨w.heap.size,1,none⟩ (.slice q1 q2 q3)).alloc (.cells #[] 3)).heap.size) rfl rfl (by exact XP (As _ _ _)) (by exact HyL.o) jT ?_);intro v7 w7 aB honly _;obtain⟨oo,yy⟩:=SA (As _ _ _) aB honly;obtain⟨t1,t2,t3,rfl⟩:=oo.shape;have kw:=xz.o.kc.keep yy;have c2:w7.cell? ⟨w.heap.size,2,none⟩=some (.slice d1 d2 d3):=kw.cell 2;have g2:=kw.frozen 2;have O7:=Z oo;have Y7:=Z yy;clear aB honly oo yy kw)
  |fail)
 have xA:=Y7.o.size;obtain⟨W8,hW8⟩:∃W,W=w7.setCell ⟨w.heap.size,2,none⟩ (.slice t1 t2 t3):=⟨_,rfl⟩;have kn:=xz.o.cols O7.o Y7.o;have yA:=R4 (j:=2) (u:=.slice t1 t2 t3) (w:=w) (Ag.keep A8 Ox6.o Y7.o J) J;have yB:=R4 (j:=2) (u:=.slice t1 t2 t3) (w:=w) (Ag.keep A8 Oy6.o Y7.o J) J;rw[←hW8]at kn yA yB⊢;have hM:=Z (kn.keep (A6 _ _).drew);have IX:=Z (yA.ints.keep (A6 _ _).drew);have IY:=Z (yB.ints.keep (A6 _ _).drew);have hU:=Z ((Ht0.o.keep kn.base.drew).1);have c0:W8.cell? ⟨w.heap.size,0,none⟩=some (.slice a1 a2 a3):=kn.kc.cell 0;have c1:W8.cell? ⟨w.heap.size,1,none⟩=some (.slice q1 q2 q3):=kn.kc.cell 1;have c2:W8.cell? ⟨w.heap.size,2,none⟩=some (.slice t1 t2 t3):=kn.kc.cell 2;have x0:W8.cell? ⟨w.heap.size+1,0,none⟩=some (.slice none 0 0):=kn.kr.cell 0;have x1:W8.cell? ⟨w.heap.size+1,1,none⟩=some (.slice none 0 0):=kn.kr.cell 1;have x2:W8.cell? ⟨w.heap.size+1,2,none⟩=some (.slice none 0 0):=kn.kr.cell 2;have f0:=kn.kr.frozen 0;have f1:=kn.kr.frozen 1;have f2:=kn.kr.frozen 2;clear kn yA yB xz Ox6 Oy6 O7 Y7 HyL g2;clear hW8;go_region_with (go_at_call 146;(with_reducible refine(Rb 146 (.inr rfl) _ _ X Y _ IX.o IY.o hla hlb hU.o).mono ?_);rintro e w9 ⟨rfl,y9⟩;replace hM:=Z (hM.o.keep y9);have c0:w9.cell? ⟨w.heap.size,0,none⟩=some (.slice a1 a2 a3):=hM.o.kc.cell 0;have c1:w9.cell? ⟨w.heap.size,1,none⟩=some (.slice q1 q2 q3):=hM.o.kc.cell 1;have c2:w9.cell? ⟨w.heap.size,2,none⟩=some (.slice t1 t2 t3):=hM.o.kc.cell 2;have x0:w9.cell? ⟨w.heap.size+1,0,none⟩=some (.slice none 0 0):=hM.o.kr.cell 0;have x1:w9.cell? ⟨w.heap.size+1,1,none⟩=some (.slice none 0 0):=hM.o.kr.cell 1;have x2:w9.cell? ⟨w.heap.size+1,2,none⟩=some (.slice none 0 0):=hM.o.kr.cell 2;have f0:=hM.o.kr.frozen 0;have f1:=hM.o.kr.frozen 1;have f2:=hM.o.kr.frozen 2)
 all_goals go_wp2
 all_goals
  obtain⟨⟨e0,e1,e2⟩,aE⟩:=(hM.o.done).fin;exact Jz #[.agg #[.slice a1 a2 a3,.slice q1 q2 q3,.slice t1 t2 t3],.string (Cy X Y)] (by simp[results,results66,go_sem,e0,e1,e2]) (by rw[HX.o,HY.o];exact aE _)
theorem A1P(S:Bk)(a b c:Value)(k:BU)(ta tb:ByteArray)(w:World)(h:Cx S w a b c k)(aq:∀x,S x→x<w.heap.size)(hs:BL k)(ht:Ck w)(se:ta.size≤1048575)(dr:tb.size≤1048575):Calls prog 66 #[.agg #[a,b,c],.string ta,.string tb] w (Df S w (No k ta tb)):=by
 have l1:=L3 ta;have l2:=L3 tb;unfold No;cases h1:C6 ta
 ·rw[if_neg Jj];exact Rc S a b c k ta tb w h aq hs ht J J _ _ h1 rfl rfl
 ·cases h2:C6 tb
  ·rw[if_neg Jj];exact Rc S a b c k ta tb w h aq hs ht J J _ _ h1 h2 rfl
  ·rw[if_pos ⟨rfl,rfl⟩];exact Xh S a b c k ta tb w h aq hs ht J J h1 h2 J J

/- Base. -/
import Derived.Test.YthmocomfjgmjoaaGreatDoorQ27
set_option maxHeartbeats 2000000
set_option maxRecDepth 100000
namespace Go.Proofs.YthmocomfjgmjoaaGreatDoor
open Go.RowKit Go.Proofs.Tryz
variable {S:Bk}{g:Nat}{k:BU}{w w':World}
structure BL(k:BU):Prop where
 m:k.img.length≤1048576
 r:∀x∈k.img,x.length≤1048576
 a:k.rows.length≤1048576
 b:k.cols.length≤1048576
structure BV(w:World)(a b c:Value)(k:BU):Prop where
 m:AI w a k.img
 r:Au w b k.rows
 c:Au w c k.cols
theorem BV.keep{a b c:Value}(h:BV w a b c k)(hb:Below w.heap.size w w'):BV w' a b c k:=⟨h.m.keep hb,h.r.keep hb,h.c.keep hb⟩
def Cx(S:Bk)(w:World)(a b c:Value)(k:BU):Prop:=AU S w a b c k.img k.rows k.cols
theorem Cx.rd{a b c:Value}(h:Cx S w a b c k):BV w a b c k:=⟨h.reads.1,h.reads.2.1,h.reads.2.2⟩
def Dd(w:World)(r:BU×ByteArray)(e:Ending)(w':World):Prop:=
 ∃a b c,e=.returned (.tuple #[.agg #[a,b,c],.string r.2])∧Cx (Iv w.heap.size w'.heap.size) w' a b c r.1∧Below w.heap.size w w'
theorem BV.shape{a b c:Value}(h:BV w a b c k):(∃x y z,a=.slice x y z)∧(∃x y z,b=.slice x y z)∧(∃x y z,c=.slice x y z):=by
 obtain⟨a1,c1,e1,-⟩:=h.m;obtain⟨a2,c2,e2,-⟩:=h.r;obtain⟨a3,c3,e3,-⟩:=h.c;exact⟨⟨_,_,_,e1⟩,⟨_,_,_,e2⟩,⟨_,_,_,e3⟩⟩
theorem Cx.of{a b c:Value}{l1 h1 l2 h2 l3 h3:Nat}(oa:Ag 32 (Ag 3 Ap) (Iv l1 h1) w a k.img)(ob:Ag 3 Ap (Iv l2 h2) w b k.rows)(oc:Ag 3 Ap (Iv l3 h3) w c k.cols)
  (s1:∀x,Iv l1 h1 x→S x)(s2:∀x,Iv l2 h2 x→S x)(s3:∀x,Iv l3 h3 x→S x)(d12:h1≤l2∨h2≤l1)(d13:h1≤l3∨h3≤l1)(d23:h2≤l3∨h3≤l2):Cx S w a b c k:=
 ⟨_,_,_,s1,s2,s3,fun x hx hy=>by have:=hx.1;have:=hx.2;have:=hy.1;have:=hy.2;omega,fun x hx hy=>by have:=hx.1;have:=hx.2;have:=hy.1;have:=hy.2;omega,fun x hx hy=>by have:=hx.1;have:=hx.2;have:=hy.1;have:=hy.2;omega,oa,ob,oc⟩
theorem B9.qaz{x y z a b c:Value}{t:TypeId}(h:B9 w g #[x,y,z] t):B9 (((w.setCell ⟨g,0,none⟩ a).setCell ⟨g,1,none⟩ b).setCell ⟨g,2,none⟩ c) g #[a,b,c] t:=by
 have h1:=((h.set (j:=0) a).set (j:=1) b).set (j:=2) c;simpa using h1
theorem GE(w:World)(g:Nat)(a b c:Value)(x:Nat)(hx:x≠g):(((w.setCell ⟨g,0,none⟩ a).setCell ⟨g,1,none⟩ b).setCell ⟨g,2,none⟩ c).heap[x]? =w.heap[x]? :=by
 rw[Below.heap_setCell _ _ _ x hx,Below.heap_setCell _ _ _ x hx,Below.heap_setCell _ _ _ x hx]
theorem Below.qaz{B:Nat}(h:Below B w w')(hg:B≤g)(a b c:Value):Below B w (((w'.setCell ⟨g,0,none⟩ a).setCell ⟨g,1,none⟩ b).setCell ⟨g,2,none⟩ c):=
 ((h.setCell (p:=⟨g,0,none⟩) hg a).setCell (p:=⟨g,1,none⟩) hg b).setCell (p:=⟨g,2,none⟩) hg c
theorem GS(w:World)(g:Nat)(a b c:Value):(((w.setCell ⟨g,0,none⟩ a).setCell ⟨g,1,none⟩ b).setCell ⟨g,2,none⟩ c).heap.size=w.heap.size:=by rw[As,As,As]
abbrev BS:Array Value:=#[.slice none 0 0,.slice none 0 0,.slice none 0 0]
theorem Co(a b c:Value)(k:BU)(w:World)(h:BV w a b c k)(hs:BL k):Calls prog 28 #[.agg #[a,b,c]] w fun e w'=>∃a' b' c',e=.returned (.agg #[a',b',c'])∧Cx (Iv w.heap.size w'.heap.size) w' a' b' c' k∧Below w.heap.size w w':=by
 obtain⟨⟨a1,a2,a3,rfl⟩,⟨b1,b2,b3,rfl⟩,⟨d1,d2,d3,rfl⟩⟩:=h.shape;obtain⟨W0,gN⟩:∃W,W=(w.alloc (.cells #[.slice a1 a2 a3,.slice b1 b2 b3,.slice d1 d2 d3] 34)).alloc (.cells BS 34):=⟨_,rfl⟩;have n8:Below w.heap.size w W0:=by rw[gN];exact((A6 _ _).alloc (A2 _) _).alloc Jj _
 have kc:B9 W0 w.heap.size #[.slice a1 a2 a3,.slice b1 b2 b3,.slice d1 d2 d3] 34:=by rw[gN];exact(B9.new w _ _).keep (Below.qab _ _)
 have kr:B9 W0 (w.heap.size+1) BS 34:=by
  rw[gN];have:=B9.new (w.alloc (.cells #[.slice a1 a2 a3,.slice b1 b2 b3,.slice d1 d2 d3] 34)) BS 34;simpa using this
 have z0:W0.heap.size=w.heap.size+2:=by rw[gN];simp
 have eI:=Z n8.drew;have hC:=Z (show BV W0.drew (.slice a1 a2 a3) (.slice b1 b2 b3) (.slice d1 d2 d3) k from h.keep n8.drew);have hK:=Z (show B9 W0.drew w.heap.size #[.slice a1 a2 a3,.slice b1 b2 b3,.slice d1 d2 d3] 34 from kc);have hR:=Z (show B9 W0.drew (w.heap.size+1) BS 34 from kr);have c0:W0.cell? ⟨w.heap.size,0,none⟩=some (.slice a1 a2 a3):=hK.o.cell 0;have c1:W0.cell? ⟨w.heap.size,1,none⟩=some (.slice b1 b2 b3):=hK.o.cell 1;have c2:W0.cell? ⟨w.heap.size,2,none⟩=some (.slice d1 d2 d3):=hK.o.cell 2;have cQ:=hs.m;have Hs:=Z hs;have Z0:=Z z0;clear n8 kc kr h z0 hs cQ;go_enter func28,ntmps28;go_wp2;rw[←gN];clear gN;go_region_with (first
  |(go_at_call 82;(with_reducible refine(F5 _ k.img _ hC.o.m Hs.o.m Hs.o.r).mono ?_);rintro e w2 ⟨va,rfl,oa,y2⟩;obtain⟨p1,p2,p3,rfl⟩:=oa.shape;have Ha:=Z oa;have hs2:W0.heap.size≤w2.heap.size:=y2.size;replace eI:=Z (eI.o.qaa y2 (A2 _));replace hC:=Z (hC.o.keep y2);replace hK:=Z (hK.o.keep y2);replace hR:=Z (hR.o.keep y2);have c0:w2.cell? ⟨w.heap.size,0,none⟩=some (.slice a1 a2 a3):=hK.o.cell 0;have c1:w2.cell? ⟨w.heap.size,1,none⟩=some (.slice b1 b2 b3):=hK.o.cell 1;have c2:w2.cell? ⟨w.heap.size,2,none⟩=some (.slice d1 d2 d3):=hK.o.cell 2)
  |(go_at_call 83;(with_reducible refine(GF _ k.rows _ hC.o.r Hs.o.a).mono ?_);rintro e w3 ⟨vb,rfl,ob,y3⟩;obtain⟨q1,q2,q3,rfl⟩:=ob.shape;have Hb:=Z ob;have d7:w2.heap.size≤w3.heap.size:=y3.size;replace Ha:=Z (Ag.keep (Ab A8) Ha.o y3 (A2 _));replace eI:=Z (eI.o.qaa y3 (A2 _));replace hC:=Z (hC.o.keep y3);replace hK:=Z (hK.o.keep y3);replace hR:=Z (hR.o.keep y3);have c0:w3.cell? ⟨w.heap.size,0,none⟩=some (.slice a1 a2 a3):=hK.o.cell 0;have c1:w3.cell? ⟨w.heap.size,1,none⟩=some (.slice b1 b2 b3):=hK.o.cell 1;have c2:w3.cell? ⟨w.heap.size,2,none⟩=some (.slice d1 d2 d3):=hK.o.cell 2)
  |(go_at_call 83;(with_reducible refine(GF _ k.cols _ hC.o.c Hs.o.b).mono ?_);rintro e w4 ⟨vc,rfl,oc,y4⟩;obtain⟨r1,r2,r3,rfl⟩:=oc.shape;have Hc:=Z oc;have l7:w3.heap.size≤w4.heap.size:=y4.size;replace Ha:=Z (Ag.keep (Ab A8) Ha.o y4 J);replace Hb:=Z (Ag.keep A8 Hb.o y4 (A2 _));replace eI:=Z (eI.o.qaa y4 (A2 _));replace hR:=Z (hR.o.keep y4);have c0:w4.cell? ⟨w.heap.size+1,0,none⟩=some (.slice none 0 0):=hR.o.cell 0;have c1:w4.cell? ⟨w.heap.size+1,1,none⟩=some (.slice none 0 0):=hR.o.cell 1;have c2:w4.cell? ⟨w.heap.size+1,2,none⟩=some (.slice none 0 0):=hR.o.cell 2;have f0:=hR.o.frozen 0;have f1:=hR.o.frozen 1;have f2:=hR.o.frozen 2))
 all_goals go_wp2
 all_goals
  have ia:=B9.qaz (a:=.slice p1 p2 p3) (b:=.slice q1 q2 q3) (c:=.slice r1 r2 r3) hR.o;have e0:=ia.cell 0;have e1:=ia.cell 1;have e2:=ia.cell 2;simp only[Av,Aw,AB]at e0 e1 e2;have hz:=Z0.o;have key:∀x,w.heap.size+2≤x→_:=fun x hx=>GE w4 (w.heap.size+1) (.slice p1 p2 p3) (.slice q1 q2 q3) (.slice r1 r2 r3) x J;refine bodyPost_ret (v:=.agg #[.slice p1 p2 p3,.slice q1 q2 q3,.slice r1 r2 r3]) (by simp[results,results28,go_sem,e0,e1,e2]) rfl ⟨_,_,_,rfl,?_,Below.qaz eI.o J _ _ _⟩;rw[GS];refine Cx.of (l1:=W0.heap.size) (h1:=w2.heap.size) (l2:=w2.heap.size) (h2:=w3.heap.size) (l3:=w3.heap.size) (h3:=w4.heap.size) ?_ ?_ ?_ (fun x hx=>⟨by have:=hx.1;omega,by have:=hx.2;omega⟩) (fun x hx=>⟨by have:=hx.1;omega,by have:=hx.2;omega⟩) (fun x hx=>⟨by have:=hx.1;omega,hx.2⟩) (.inl (A2 _)) (.inl d7) (.inl (A2 _))
  ·exact(Ab (Ab A8)).same (fun x hx=>key x (by have:=hx.1;omega)) Ha.o
  ·exact(Ab A8).same (fun x hx=>key x (by have:=hx.1;omega)) Hb.o
  ·exact(Ab A8).same (fun x hx=>key x (by have:=hx.1;omega)) Hc.o
theorem D0{t:ByteArray}(h:t≠ByteArray.empty):t.toList.isEmpty=false:=by
 rw[ByteArray.toList_eq];cases e:t.data.toList with
 |nil=>exact absurd (DX (by rw[e];rfl)) h
 |cons a l=>rfl
theorem Mo(t:ByteArray)(w:World):Calls prog 44 #[.string t] w fun e w'=>e=.returned (.string (BY t))∧w=w':=by
 by_cases h:t=ByteArray.empty
 ·subst h;go_enter func44,ntmps44;go_wp2
  go_ret
  exact⟨rfl,rfl⟩
 ·have aK:=D0 h;have Hr:=Z (show BY t=t from if_neg h);clear h;go_enter func44,ntmps44;go_wp2
  go_ret
  exact⟨by rw[Hr.o];rfl,rfl⟩
theorem Ky(t:ByteArray)(w:World):Calls prog 123 #[.string t] w fun e w'=>e=.returned (.string (BY t))∧w=w':=by
 by_cases h:t=ByteArray.empty
 ·subst h;go_enter func123,ntmps123;go_wp2
  go_ret
  exact⟨rfl,rfl⟩
 ·have aK:=D0 h;have Hr:=Z (show BY t=t from if_neg h);clear h;go_enter func123,ntmps123;go_wp2
  go_ret
  exact⟨by rw[Hr.o];rfl,rfl⟩
theorem YR(Bo:Nat)(a1 b1 c1 m1:Option Addr)(a2 a3 b2 b3 c2 c3 m2 m3:Nat)(w:World)(hB:B9 w Bo #[.slice a1 a2 a3,.slice b1 b2 b3,.slice c1 c2 c3] 34):
  Calls prog 29 #[.slice m1 m2 m3,.bool false,.pointer (some ⟨Bo,0,none⟩)] w fun e w'=>
   e=.returned (.tuple #[.agg #[.slice a1 a2 a3,.slice b1 b2 b3,.slice c1 c2 c3],.string C7])∧Below w.heap.size w w':=by
 have kb:=hB.keep (Below.qab w (.cells BS 34));have c0:(w.alloc (.cells BS 34)).cell? ⟨Bo,0,none⟩=some (.slice a1 a2 a3):=kb.cell 0;have c1':(w.alloc (.cells BS 34)).cell? ⟨Bo,1,none⟩=some (.slice b1 b2 b3):=kb.cell 1;have sf:(w.alloc (.cells BS 34)).cell? ⟨Bo,2,none⟩=some (.slice c1 c2 c3):=kb.cell 2;have Bb:=Z (Below.qab w (.cells #[.slice a1 a2 a3,.slice b1 b2 b3,.slice c1 c2 c3] 34));clear kb hB;go_enter func29,ntmps29;go_wp2;exact Jz #[.agg #[.slice a1 a2 a3,.slice b1 b2 b3,.slice c1 c2 c3],.string C7] (by simp[results,results29,go_sem,C7]) ⟨rfl,Bb.o⟩
theorem Vq(Bo l h:Nat)(a1 b1 c1 m1:Option Addr)(a2 a3 b2 b3 c2 c3 m2 m3:Nat)(m:I)(w:World)(hB:B9 w Bo #[.slice a1 a2 a3,.slice b1 b2 b3,.slice c1 c2 c3] 34)
  (ho:Ag 32 (Ag 3 Ap) (Iv l h) w (.slice m1 m2 m3) m)(hh:h≤w.heap.size)(nS:Bo<l∨h≤Bo):
  Calls prog 29 #[.slice m1 m2 m3,.bool true,.pointer (some ⟨Bo,0,none⟩)] w fun e w'=>
   e=.returned (.tuple #[.agg #[.slice m1 m2 m3,.slice b1 b2 b3,.slice c1 c2 c3],.string (AD m)])∧AO (fun x=>x=Bo) w w':=by
 have aF:=hB.lt;have aK:Bo≠w.heap.size:=J;have kb:=hB.keep (Below.qab w (.cells BS 34));have x0:(w.alloc (.cells BS 34)).cell? ⟨Bo,0,none⟩=some (.slice a1 a2 a3):=kb.cell 0;have x1:=kb.frozen 0;obtain⟨W0,gN⟩:∃W,W=w.setCell ⟨Bo,0,none⟩ (.slice m1 m2 m3):=⟨_,rfl⟩;have ks:B9 W0 Bo #[.slice m1 m2 m3,.slice b1 b2 b3,.slice c1 c2 c3] 34:=by
  rw[gN];have:=hB.set (j:=0) (.slice m1 m2 m3);simpa using this
 have z0:W0.heap.size=w.heap.size:=by rw[gN,As]
 obtain⟨W1,hW1⟩:∃W,W=W0.alloc (.cells BS 34):=⟨_,rfl⟩;have kb1:B9 W1 Bo #[.slice m1 m2 m3,.slice b1 b2 b3,.slice c1 c2 c3] 34:=by rw[hW1];exact ks.keep (Below.qab _ _)
 have kr1:B9 W1 w.heap.size BS 34:=by rw[hW1,←z0];exact B9.new W0 _ _
 have on1:AO (fun x=>x=Bo) w W1:=by rw[hW1,gN];exact(Fe w Bo 0 _).alloc _
 have hG:=Z (show AI W1.drew (.slice m1 m2 m3) m from(Ag.only (Ab A8) ho on1 (fun b hb=>by have:=hb.2;omega) (fun b hb e=>by have:=hb.1;have:=hb.2;have:b=Bo:=e;omega)).qag);have hK:=Z (show B9 W1.drew Bo #[.slice m1 m2 m3,.slice b1 b2 b3,.slice c1 c2 c3] 34 from kb1);have hR:=Z (show B9 W1.drew w.heap.size BS 34 from kr1);have hO:=Z on1.drew;have c0:W1.cell? ⟨Bo,0,none⟩=some (.slice m1 m2 m3):=hK.o.cell 0;have c1':W1.cell? ⟨Bo,1,none⟩=some (.slice b1 b2 b3):=hK.o.cell 1;have sf:W1.cell? ⟨Bo,2,none⟩=some (.slice c1 c2 c3):=hK.o.cell 2;have HW1:=Z hW1;have cn:w.heap.size<W1.heap.size:=kr1.lt;clear kb kb1 kr1 on1 ks hB ho hW1 z0;subst gN;go_enter func29,ntmps29;go_wp2;rw[←HW1.o];clear x0 x1;go_region_with (go_at_call 30;refine(Fw _ m _ hG.o).mono ?_;rintro e w2 ⟨rfl,y2⟩;replace hK:=Z (hK.o.keep y2);replace hR:=Z (hR.o.keep y2);replace hO:=Z (hO.o.qai (AO.qaj y2 (fun x=>x=Bo)|>.mono fun b hb _=>.inl hb));have c0:w2.cell? ⟨Bo,0,none⟩=some (.slice m1 m2 m3):=hK.o.cell 0;have c1':w2.cell? ⟨Bo,1,none⟩=some (.slice b1 b2 b3):=hK.o.cell 1;have sf:w2.cell? ⟨Bo,2,none⟩=some (.slice c1 c2 c3):=hK.o.cell 2;have d0:w2.cell? ⟨w.heap.size,0,none⟩=some (.slice none 0 0):=hR.o.cell 0;have d1:w2.cell? ⟨w.heap.size,1,none⟩=some (.slice none 0 0):=hR.o.cell 1;have d2:w2.cell? ⟨w.heap.size,2,none⟩=some (.slice none 0 0):=hR.o.cell 2;have f0:=hR.o.frozen 0;have f1:=hR.o.frozen 1;have f2:=hR.o.frozen 2)
 all_goals go_wp2
 all_goals
  have ia:=B9.qaz (a:=.slice m1 m2 m3) (b:=.slice b1 b2 b3) (c:=.slice c1 c2 c3) hR.o;have e0:=ia.cell 0;have e1:=ia.cell 1;have e2:=ia.cell 2;simp only[Av,Aw,AB]at e0 e1 e2;exact Jz #[.agg #[.slice m1 m2 m3,.slice b1 b2 b3,.slice c1 c2 c3],.string (AD m)] (by simp[results,results29,go_sem,e0,e1,e2]) ⟨rfl,((hO.o.setCell (p:=⟨w.heap.size,0,none⟩) (.inr (A2 _)) _).setCell (p:=⟨w.heap.size,1,none⟩) (.inr (A2 _)) _).setCell (p:=⟨w.heap.size,2,none⟩) (.inr (A2 _)) _⟩

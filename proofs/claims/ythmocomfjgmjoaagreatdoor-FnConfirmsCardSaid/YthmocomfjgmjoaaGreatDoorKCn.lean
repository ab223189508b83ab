/- Contracts: consoles copied, an image put into a console, a text or none; both sides. -/
import Derived.Test.YthmocomfjgmjoaaGreatDoorQ27
set_option maxHeartbeats 2000000
set_option maxRecDepth 100000
namespace Go.Proofs.YthmocomfjgmjoaaGreatDoor
open Go.RowKit
structure Az(k:B9):Prop where
 m:k.img.length≤1048576
 r:∀x∈k.img,x.length≤1048576
 a:k.rows.length≤1048576
 b:k.cols.length≤1048576
structure AV(w:World)(a b c:Value)(k:B9):Prop where
 m:Ak w a k.img
 r:Ab w b k.rows
 c:Ab w c k.cols
theorem AV.keep{w w':World}{a b c:Value}{k:B9}(h:AV w a b c k)(hb:Below w.heap.size w w'):AV w' a b c k:=⟨h.m.keep hb,h.r.keep hb,h.c.keep hb⟩
def Cj(S:Bk)(w:World)(a b c:Value)(k:B9):Prop:=DX S w a b c k.img k.rows k.cols
theorem Cj.rd{S:Bk}{w:World}{a b c:Value}{k:B9}(h:Cj S w a b c k):AV w a b c k:=⟨h.reads.1,h.reads.2.1,h.reads.2.2⟩
def AG(w:World)(r:B9×ByteArray)(e:Ending)(w':World):Prop:=
 ∃a b c,e=.returned (.tuple #[.agg #[a,b,c],.string r.2])∧Cj (Iv w.heap.size w'.heap.size) w' a b c r.1∧Below w.heap.size w w'
theorem AV.shape{w:World}{a b c:Value}{k:B9}(h:AV w a b c k):(∃x y z,a=.slice x y z)∧(∃x y z,b=.slice x y z)∧(∃x y z,c=.slice x y z):=by
 obtain⟨a1,c1,e1,-⟩:=h.m;obtain⟨a2,c2,e2,-⟩:=h.r;obtain⟨a3,c3,e3,-⟩:=h.c;exact⟨⟨_,_,_,e1⟩,⟨_,_,_,e2⟩,⟨_,_,_,e3⟩⟩
theorem Cj.of{S:Bk}{w:World}{a b c:Value}{k:B9}{l1 h1 l2 h2 l3 h3:Nat}(oa:A4 32 (A4 3 A7) (Iv l1 h1) w a k.img)(ob:A4 3 A7 (Iv l2 h2) w b k.rows)(oc:A4 3 A7 (Iv l3 h3) w c k.cols)
  (s1:∀x,Iv l1 h1 x→S x)(s2:∀x,Iv l2 h2 x→S x)(s3:∀x,Iv l3 h3 x→S x)(d12:h1≤l2∨h2≤l1)(d13:h1≤l3∨h3≤l1)(d23:h2≤l3∨h3≤l2):Cj S w a b c k:=
 ⟨_,_,_,s1,s2,s3,fun x hx hy=>by have:=hx.1;have:=hx.2;have:=hy.1;have:=hy.2;omega,fun x hx hy=>by have:=hx.1;have:=hx.2;have:=hy.1;have:=hy.2;omega,fun x hx hy=>by have:=hx.1;have:=hx.2;have:=hy.1;have:=hy.2;omega,oa,ob,oc⟩
theorem Aw.set3{w:World}{g:Nat}{x y z a b c:Value}{t:TypeId}(h:Aw w g #[x,y,z] t):Aw (((w.setCell ⟨g,0,none⟩ a).setCell ⟨g,1,none⟩ b).setCell ⟨g,2,none⟩ c) g #[a,b,c] t:=by
 have h1:=((h.set (j:=0) a).set (j:=1) b).set (j:=2) c;simpa using h1
theorem Io(w:World)(g:Nat)(a b c:Value)(x:Nat)(hx:x≠g):(((w.setCell ⟨g,0,none⟩ a).setCell ⟨g,1,none⟩ b).setCell ⟨g,2,none⟩ c).heap[x]? =w.heap[x]? :=by
 rw[Below.heap_setCell _ _ _ x hx,Below.heap_setCell _ _ _ x hx,Below.heap_setCell _ _ _ x hx]
theorem Below.set3{B:Nat}{w w':World}(h:Below B w w'){g:Nat}(hg:B≤g)(a b c:Value):Below B w (((w'.setCell ⟨g,0,none⟩ a).setCell ⟨g,1,none⟩ b).setCell ⟨g,2,none⟩ c):=
 ((h.setCell (p:=⟨g,0,none⟩) hg a).setCell (p:=⟨g,1,none⟩) hg b).setCell (p:=⟨g,2,none⟩) hg c
theorem Is(w:World)(g:Nat)(a b c:Value):(((w.setCell ⟨g,0,none⟩ a).setCell ⟨g,1,none⟩ b).setCell ⟨g,2,none⟩ c).heap.size=w.heap.size:=by rw[A9,A9,A9]
abbrev At:Array Value:=#[.slice none 0 0,.slice none 0 0,.slice none 0 0]
theorem Ah(a b c:Value)(k:B9)(w:World)(h:AV w a b c k)(hs:Az k):Calls Tryz.prog 28 #[.agg #[a,b,c]] w fun e w'=>∃a' b' c',e=.returned (.agg #[a',b',c'])∧Cj (Iv w.heap.size w'.heap.size) w' a' b' c' k∧Below w.heap.size w w':=by
 obtain⟨⟨a1,a2,a3,rfl⟩,⟨b1,b2,b3,rfl⟩,⟨d1,d2,d3,rfl⟩⟩:=h.shape;obtain⟨W0,gI⟩:∃W,W=(w.alloc (.cells #[.slice a1 a2 a3,.slice b1 b2 b3,.slice d1 d2 d3] 34)).alloc (.cells At 34):=⟨_,rfl⟩;have nV:Below w.heap.size w W0:=by rw[gI];exact((Below.refl _ _).alloc (Nat.le_refl _) _).alloc (by simp) _
 have kc:Aw W0 w.heap.size #[.slice a1 a2 a3,.slice b1 b2 b3,.slice d1 d2 d3] 34:=by rw[gI];exact(Aw.new w _ _).keep (Below.pureAlloc _ _)
 have kr:Aw W0 (w.heap.size+1) At 34:=by
  rw[gI];have:=Aw.new (w.alloc (.cells #[.slice a1 a2 a3,.slice b1 b2 b3,.slice d1 d2 d3] 34)) At 34;simpa using this
 have z0:W0.heap.size=w.heap.size+2:=by rw[gI];simp
 have eU:=Z nV.drew;have hC:=Z (show AV W0.drew (.slice a1 a2 a3) (.slice b1 b2 b3) (.slice d1 d2 d3) k from h.keep nV.drew);have hK:=Z (show Aw W0.drew w.heap.size #[.slice a1 a2 a3,.slice b1 b2 b3,.slice d1 d2 d3] 34 from kc);have hR:=Z (show Aw W0.drew (w.heap.size+1) At 34 from kr);have c0:W0.cell? ⟨w.heap.size,0,none⟩=some (.slice a1 a2 a3):=hK.o.cell 0;have c1:W0.cell? ⟨w.heap.size,1,none⟩=some (.slice b1 b2 b3):=hK.o.cell 1;have c2:W0.cell? ⟨w.heap.size,2,none⟩=some (.slice d1 d2 d3):=hK.o.cell 2;have cX:=hs.m;have Hs:=Z hs;have Z0:=Z z0;clear nV kc kr h z0 hs cX;go_enter Tryz.func28,Tryz.ntmps28;go_wp2;rw[←gI];clear gI;go_region_with (first
  |(go_at_call 82;(with_reducible refine(EO _ k.img _ hC.o.m Hs.o.m Hs.o.r).mono ?_);rintro e w2 ⟨va,rfl,oa,y2⟩;obtain⟨p1,p2,p3,rfl⟩:=oa.shape;have Ha:=Z oa;have hs2:W0.heap.size≤w2.heap.size:=y2.size;replace eU:=Z (eU.o.trans_pure y2 (Nat.le_refl _));replace hC:=Z (hC.o.keep y2);replace hK:=Z (hK.o.keep y2);replace hR:=Z (hR.o.keep y2);have c0:w2.cell? ⟨w.heap.size,0,none⟩=some (.slice a1 a2 a3):=hK.o.cell 0;have c1:w2.cell? ⟨w.heap.size,1,none⟩=some (.slice b1 b2 b3):=hK.o.cell 1;have c2:w2.cell? ⟨w.heap.size,2,none⟩=some (.slice d1 d2 d3):=hK.o.cell 2)
  |(go_at_call 83;(with_reducible refine(GB _ k.rows _ hC.o.r Hs.o.a).mono ?_);rintro e w3 ⟨vb,rfl,ob,y3⟩;obtain⟨q1,q2,q3,rfl⟩:=ob.shape;have Hb:=Z ob;have bO:w2.heap.size≤w3.heap.size:=y3.size;replace Ha:=Z (A4.keep (A3 A2) Ha.o y3 (Nat.le_refl _));replace eU:=Z (eU.o.trans_pure y3 (Nat.le_refl _));replace hC:=Z (hC.o.keep y3);replace hK:=Z (hK.o.keep y3);replace hR:=Z (hR.o.keep y3);have c0:w3.cell? ⟨w.heap.size,0,none⟩=some (.slice a1 a2 a3):=hK.o.cell 0;have c1:w3.cell? ⟨w.heap.size,1,none⟩=some (.slice b1 b2 b3):=hK.o.cell 1;have c2:w3.cell? ⟨w.heap.size,2,none⟩=some (.slice d1 d2 d3):=hK.o.cell 2)
  |(go_at_call 83;(with_reducible refine(GB _ k.cols _ hC.o.c Hs.o.b).mono ?_);rintro e w4 ⟨vc,rfl,oc,y4⟩;obtain⟨r1,r2,r3,rfl⟩:=oc.shape;have Hc:=Z oc;have ln:w3.heap.size≤w4.heap.size:=y4.size;replace Ha:=Z (A4.keep (A3 A2) Ha.o y4 (by omega));replace Hb:=Z (A4.keep A2 Hb.o y4 (Nat.le_refl _));replace eU:=Z (eU.o.trans_pure y4 (Nat.le_refl _));replace hR:=Z (hR.o.keep y4);have c0:w4.cell? ⟨w.heap.size+1,0,none⟩=some (.slice none 0 0):=hR.o.cell 0;have c1:w4.cell? ⟨w.heap.size+1,1,none⟩=some (.slice none 0 0):=hR.o.cell 1;have c2:w4.cell? ⟨w.heap.size+1,2,none⟩=some (.slice none 0 0):=hR.o.cell 2;have f0:=hR.o.frozen 0;have f1:=hR.o.frozen 1;have f2:=hR.o.frozen 2))
 all_goals go_wp2
 all_goals
  have hJ:=Aw.set3 (a:=.slice p1 p2 p3) (b:=.slice q1 q2 q3) (c:=.slice r1 r2 r3) hR.o;have e0:=hJ.cell 0;have e1:=hJ.cell 1;have e2:=hJ.cell 2;simp only[List.getElem?_toArray,List.getElem?_cons_zero,List.getElem?_cons_succ] at e0 e1 e2;have hz:=Z0.o;have key:∀x,w.heap.size+2≤x→_:=fun x hx=>Io w4 (w.heap.size+1) (.slice p1 p2 p3) (.slice q1 q2 q3) (.slice r1 r2 r3) x (by omega);refine bodyPost_ret (v:=.agg #[.slice p1 p2 p3,.slice q1 q2 q3,.slice r1 r2 r3]) (by simp[results,Tryz.results28,go_sem,e0,e1,e2]) rfl ⟨_,_,_,rfl,?_,Below.set3 eU.o (by omega) _ _ _⟩;rw[Is];refine Cj.of (l1:=W0.heap.size) (h1:=w2.heap.size) (l2:=w2.heap.size) (h2:=w3.heap.size) (l3:=w3.heap.size) (h3:=w4.heap.size) ?_ ?_ ?_ (fun x hx=>⟨by have:=hx.1;omega,by have:=hx.2;omega⟩) (fun x hx=>⟨by have:=hx.1;omega,by have:=hx.2;omega⟩) (fun x hx=>⟨by have:=hx.1;omega,hx.2⟩) (.inl (Nat.le_refl _)) (.inl bO) (.inl (Nat.le_refl _))
  ·exact(A3 (A3 A2)).same (fun x hx=>key x (by have:=hx.1;omega)) Ha.o
  ·exact(A3 A2).same (fun x hx=>key x (by have:=hx.1;omega)) Hb.o
  ·exact(A3 A2).same (fun x hx=>key x (by have:=hx.1;omega)) Hc.o

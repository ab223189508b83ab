/- Base. -/
import Derived.Test.YthmocomfjgmjoaaGreatDoorQ28
set_option maxHeartbeats 4000000
set_option maxRecDepth 100000
namespace Go.Proofs.YthmocomfjgmjoaaGreatDoor
open Go.RowKit Go.Proofs.Tryz
variable {S:Bk}{W W':World}{a b c:Value}{k:BU}{w:World}
def Df(S:Bk)(w:World)(r:BU×ByteArray)(e:Ending)(w':World):Prop:=
 ∃a b c,e=.returned (.tuple #[.agg #[a,b,c],.string r.2])∧Cx (fun x=>S x∨(w.heap.size≤x∧x<w'.heap.size)) w' a b c r.1∧Below w.heap.size w w'
structure Du(S:Bk)(w W:World)(a b c:Value)(k:BU):Prop where
 base:Below w.heap.size w W
 kc:B9 W w.heap.size #[a,b,c] 34
 kr:B9 W (w.heap.size+1) BS 34
 own:Cx S W a b c k
 hS:∀x,S x→x<w.heap.size
theorem Du.rd(h:Du S w W a b c k):BV W a b c k:=h.own.rd
theorem Du.keep(h:Du S w W a b c k)(y:Below W.heap.size W W'):Du S w W' a b c k:=
 ⟨h.base.qaa y (A2 _),h.kc.keep y,h.kr.keep y,h.own.same (Ac y fun x hx=>by have:=h.hS x hx;have:=h.kc.lt;omega),h.hS⟩
theorem Du.cc(h:Du S w W a b c k):W.cell? ⟨w.heap.size,0,none⟩=some a∧W.cell? ⟨w.heap.size,1,none⟩=some b∧W.cell? ⟨w.heap.size,2,none⟩=some c:=⟨h.kc.cell 0,h.kc.cell 1,h.kc.cell 2⟩
theorem Du.xc(h:Du S w W a b c k):W.cell? ⟨w.heap.size+1,0,none⟩=some (.slice none 0 0)∧W.cell? ⟨w.heap.size+1,1,none⟩=some (.slice none 0 0)∧W.cell? ⟨w.heap.size+1,2,none⟩=some (.slice none 0 0)∧W.frozen? ⟨w.heap.size+1,0,none⟩=false∧W.frozen? ⟨w.heap.size+1,1,none⟩=false∧W.frozen? ⟨w.heap.size+1,2,none⟩=false:=⟨h.kr.cell 0,h.kr.cell 1,h.kr.cell 2,h.kr.frozen 0,h.kr.frozen 1,h.kr.frozen 2⟩
theorem Du.drew(h:Du S w W a b c k):Du S w W.drew a b c k:=h.keep (A6 _ _).drew
theorem Du.start(h:Cx S w a b c k)(aq:∀x,S x→x<w.heap.size):
  Du S w ((w.alloc (.cells #[a,b,c] 34)).alloc (.cells BS 34)) a b c k:=by
 have y1:=Below.qab w (.cells #[a,b,c] 34);have y2:=Below.qab (w.alloc (.cells #[a,b,c] 34)) (.cells BS 34);have y3:=y1.qaa y2 (A2 _);refine⟨y3,(B9.new w _ _).keep y2,?_,h.same (Ac y3 aq),aq⟩;have:=B9.new (w.alloc (.cells #[a,b,c] 34)) BS 34;simpa using this
structure Nv(S:Bk)(w W:World)(a b c:Value)(k:BU):Prop where
 base:Below w.heap.size w W
 kr:B9 W (w.heap.size+1) BS 34
 own:Cx (fun x=>S x∨(w.heap.size+2≤x∧x<W.heap.size)) W a b c k
 hS:∀x,S x→x<w.heap.size
theorem Du.done(h:Du S w W a b c k):Nv S w W a b c k:=⟨h.base,h.kr,h.own.mono fun _ hx=>.inl hx,h.hS⟩
theorem Nv.keep(h:Nv S w W a b c k)(y:Below W.heap.size W W'):Nv S w W' a b c k:=
 ⟨h.base.qaa y (A2 _),h.kr.keep y,(h.own.same (Ac y fun x hx=>by have:=h.hS x;have:=h.base.size;rcases hx with hx|hx;have:=h.hS x hx;omega;exact hx.2)).mono fun x hx=>hx.imp id fun hx=>⟨hx.1,Aa hx.2 y.size⟩,h.hS⟩
theorem Du.call{w':World}{a' b' c':Value}{k':BU}(h:Du S w W a b c k)(o:Cx (fun x=>S x∨(W.heap.size≤x∧x<w'.heap.size)) w' a' b' c' k')(y:Below W.heap.size W w'):Nv S w w' a' b' c' k':=
 ⟨h.base.qaa y (A2 _),h.kr.keep y,o.mono fun x hx=>hx.imp id fun hx=>⟨by have:=hx.1;have:=h.kr.lt;omega,hx.2⟩,h.hS⟩
theorem Du.lt(h:Du S w W a b c k):∀x,S x→x<W.heap.size:=fun x hx=>by have:=h.hS x hx;have:=h.kc.lt;omega
theorem Nv.fin(h:Nv S w W a b c k):
  let W5:=((W.setCell ⟨w.heap.size+1,0,none⟩ a).setCell ⟨w.heap.size+1,1,none⟩ b).setCell ⟨w.heap.size+1,2,none⟩ c
  (W5.cell? ⟨w.heap.size+1,0,none⟩=some a∧W5.cell? ⟨w.heap.size+1,1,none⟩=some b∧W5.cell? ⟨w.heap.size+1,2,none⟩=some c)∧∀t:ByteArray,Df S w (k,t) (.returned (.tuple #[.agg #[a,b,c],.string t])) W5:=by
 intro W5;have ia:=B9.qaz (a:=a) (b:=b) (c:=c) h.kr;have e0:=ia.cell 0;have e1:=ia.cell 1;have e2:=ia.cell 2;simp only[Av,Aw,AB]at e0 e1 e2;refine⟨⟨e0,e1,e2⟩,fun t=>⟨a,b,c,rfl,?_,Below.qaz h.base J _ _ _⟩⟩;refine(h.own.same (fun x hx=>GE W (w.heap.size+1) a b c x (by rcases hx with hx|hx;have:=h.hS x hx;omega;have:=hx.1;omega))).mono fun x hx=>hx.imp id fun hx=>⟨by have:=hx.1;omega,?_⟩;show x<W5.heap.size;rw[GS];exact hx.2
theorem Uq(t:ByteArray)(h:Cx S w a b c k)(aq:∀x,S x→x<w.heap.size):
  Df S w (k,t) (.returned (.tuple #[.agg #[a,b,c],.string t])) ((w.alloc (.cells #[a,b,c] 34)).alloc (.cells #[a,b,c] 34)):=by
 have y:=(Below.qab w (.cells #[a,b,c] 34)).qaa (Below.qab _ (.cells #[a,b,c] 34)) (A2 _);exact⟨a,b,c,rfl,(h.same (Ac y aq)).mono fun _ hx=>.inl hx,y⟩
theorem Du.img{v:Value}{m:I}(h:Du S w W a b c k)(o:Ag 32 (Ag 3 Ap) (Iv W.heap.size W'.heap.size) W' v m)(y:Below W.heap.size W W'):
  Nv S w (W'.setCell ⟨w.heap.size,0,none⟩ v) v b c ⟨m,k.rows,k.cols⟩∧B9 (W'.setCell ⟨w.heap.size,0,none⟩ v) w.heap.size #[v,b,c] 34:=by
 obtain⟨Sa,Sb,Sc,s1,s2,s3,d1,d2,d3,o1,o2,o3⟩:=h.own;have hk:=h.kr.lt;have sm:∀x,x≠w.heap.size→(W'.setCell ⟨w.heap.size,0,none⟩ v).heap[x]? =W'.heap[x]? :=fun x hx=>Below.heap_setCell W' _ _ x hx;refine⟨⟨(h.base.qaa y (A2 _)).setCell (A2 _) _,(h.kr.keep y).qah J _,⟨Iv W.heap.size W'.heap.size,Sb,Sc,?_,?_,?_,?_,?_,d3,?_,?_,?_⟩,h.hS⟩,?_⟩
 ·intro x hx;have:=hx.1;have:=hx.2;exact .inr ⟨J,by rw[As];omega⟩
 ·intro x hx;exact .inl (s2 x hx)
 ·intro x hx;exact .inl (s3 x hx)
 ·intro x hx hy;have:=hx.1;have:=h.lt x (s2 x hy);omega
 ·intro x hx hy;have:=hx.1;have:=h.lt x (s3 x hy);omega
 ·exact(Ab (Ab A8)).same (fun x hx=>sm x (by have:=hx.1;omega)) o
 ·exact(Ab A8).same (fun x hx=>sm x (by have:=h.hS x (s2 x hx);omega)) ((Ab A8).same (Ac y fun x hx=>h.lt x (s2 x hx)) o2)
 ·exact(Ab A8).same (fun x hx=>sm x (by have:=h.hS x (s3 x hx);omega)) ((Ab A8).same (Ac y fun x hx=>h.lt x (s3 x hx)) o3)
 ·have:=(h.kc.keep y).set (j:=0) v;simpa using this
theorem A1v(S:Bk)(a b c:Value)(k:BU)(m1:Option Addr)(m2 m3:Nat)(w:World)(h:Cx S w a b c k)(aq:∀x,S x→x<w.heap.size)(hs:BL k)(ht:Ck w):Calls prog 126 #[.agg #[a,b,c],.slice m1 m2 m3,.bool false] w (Df S w (k,C7)):=by
 obtain⟨⟨a1,a2,a3,rfl⟩,⟨b1,b2,b3,rfl⟩,⟨d1,d2,d3,rfl⟩⟩:=h.rd.shape;have hS:=Z (Du.start h aq);have Hs:=Z hs;have hT:=Z (ht.keep hS.o.base);obtain⟨c0,c1,c2⟩:=hS.o.cc;obtain⟨x0,x1,x2,f0,f1,f2⟩:=hS.o.xc;have gB:=Z (fun t:ByteArray=>Uq t h aq);clear h aq hs ht;go_enter func126,ntmps126;clear Hs hT;go_wp2;exact Jz #[.agg #[.slice a1 a2 a3,.slice b1 b2 b3,.slice d1 d2 d3],.string C7] (by simp[results,results126,go_sem,C7]) (gB.o _)
theorem ZL(S:Bk)(a b c:Value)(k:BU)(m1:Option Addr)(m2 m3:Nat)(m:I)(w:World)(h:Cx S w a b c k)(aq:∀x,S x→x<w.heap.size)(hs:BL k)(ht:Ck w)(hm:AI w (.slice m1 m2 m3) m)(hf:PQ m):Calls prog 126 #[.agg #[a,b,c],.slice m1 m2 m3,.bool true] w (Df S w (⟨m,k.rows,k.cols⟩,AD m)):=by
 obtain⟨⟨a1,a2,a3,rfl⟩,⟨b1,b2,b3,rfl⟩,⟨d1,d2,d3,rfl⟩⟩:=h.rd.shape;have hS:=Z (Du.start h aq);have Hs:=Z hs;have hT:=Z (ht.keep hS.o.base);obtain⟨c0,c1,c2⟩:=hS.o.cc;obtain⟨x0,x1,x2,f0,f1,f2⟩:=hS.o.xc;clear h aq hs ht;have Hm:=Z hm;have Hf:=Z hf;clear hm hf Hs hT;go_enter func126,ntmps126;go_wp2_with fail;refine(D5 _ m _ (Hm.o.keep hS.o.base) Hf.o.1 Hf.o.2.1).mono ?_;rintro e w3 ⟨mv,rfl,om,y3⟩;obtain⟨l1,l2,l3,rfl⟩:=om.shape;have au:w.heap.size+1<w3.heap.size:=by have:=hS.o.kr.lt;have:=y3.size;omega
 obtain⟨hE,hK⟩:=hS.o.img om y3;replace hS:=Z (hS.o.keep y3);clear c0 c1 c2 x0 x1 x2 f0 f1 f2 om y3;obtain⟨c0,c1,c2⟩:=hS.o.cc;have g0:=hS.o.kc.frozen 0;obtain⟨W4,hW4⟩:∃W,W=w3.setCell ⟨w.heap.size,0,none⟩ (.slice l1 l2 l3):=⟨_,rfl⟩;rw[←hW4]at hE hK;have HE:=Z (hE.keep (A6 _ _).drew);have HK:=Z (show B9 W4.drew w.heap.size #[.slice l1 l2 l3,.slice b1 b2 b3,.slice d1 d2 d3] 34 from hK);have zH:=Z hW4;have i0:W4.cell? ⟨w.heap.size,0,none⟩=some (.slice l1 l2 l3):=HK.o.cell 0;have i1:W4.cell? ⟨w.heap.size,1,none⟩=some (.slice b1 b2 b3):=HK.o.cell 1;have i2:W4.cell? ⟨w.heap.size,2,none⟩=some (.slice d1 d2 d3):=HK.o.cell 2;clear hE hK hW4;go_wp2;rw[←zH.o];clear c0 c1 c2 g0;go_region_with (go_at_call 139;refine(EK _ m _ (Hm.o.keep HE.o.base)).mono ?_;rintro e w5 ⟨rfl,y5⟩;replace HE:=Z (HE.o.keep y5);replace HK:=Z (HK.o.keep y5);have j0:w5.cell? ⟨w.heap.size,0,none⟩=some (.slice l1 l2 l3):=HK.o.cell 0;have j1:w5.cell? ⟨w.heap.size,1,none⟩=some (.slice b1 b2 b3):=HK.o.cell 1;have j2:w5.cell? ⟨w.heap.size,2,none⟩=some (.slice d1 d2 d3):=HK.o.cell 2;have x0:w5.cell? ⟨w.heap.size+1,0,none⟩=some (.slice none 0 0):=HE.o.kr.cell 0;have x1:w5.cell? ⟨w.heap.size+1,1,none⟩=some (.slice none 0 0):=HE.o.kr.cell 1;have x2:w5.cell? ⟨w.heap.size+1,2,none⟩=some (.slice none 0 0):=HE.o.kr.cell 2;have f0:=HE.o.kr.frozen 0;have f1:=HE.o.kr.frozen 1;have f2:=HE.o.kr.frozen 2)
 all_goals go_wp2
 all_goals
  obtain⟨⟨e0,e1,e2⟩,aE⟩:=(HE.o).fin;exact Jz #[.agg #[.slice l1 l2 l3,.slice b1 b2 b3,.slice d1 d2 d3],.string (AD m)] (by simp[results,results126,go_sem,e0,e1,e2]) (aE _)
theorem OF(S:Bk)(a b c:Value)(m1:Option Addr)(m2 m3:Nat)(k:BU)(o:Option I)(w:World)(h:Cx S w a b c k)(aq:∀x,S x→x<w.heap.size)(hs:BL k)(ht:Ck w)(hm:AI w (.slice m1 m2 m3) (o.getD []))(hf:∀m,o=some m→PQ m):
  Calls prog 126 #[.agg #[a,b,c],.slice m1 m2 m3,.bool o.isSome] w (Df S w (Fp k o)):=by
 cases o with
 |none=>exact A1v S a b c k m1 m2 m3 w h aq hs ht
 |some m=>exact ZL S a b c k m1 m2 m3 m w h aq hs ht hm (hf m rfl)

/- RunLine of the program: the state in which the commands are carried out. -/
import Derived.Test.YthmocomfjgmjoaaGreatDoorKCn2
import Derived.Test.YthmocomfjgmjoaaGreatDoorQ24
set_option maxHeartbeats 4000000
set_option maxRecDepth 100000
namespace Go.Proofs.YthmocomfjgmjoaaGreatDoor
open Go.RowKit
theorem NR{s:ByteArray}(h:AH s=true):s=⟨#[]⟩∨∃l,s.data.toList=35::l:=by
 unfold AH at h;cases e:s.data.toList with
 |nil=>exact .inl (Dm (by rw[e]))
 |cons b l=>
  rw[e] at h;simp at h;exact .inr ⟨l,by rw[h]⟩
theorem Tv{s:ByteArray}(h:AH s=false):∃b l,s.data.toList=b::l∧b≠35:=by
 unfold AH at h;cases e:s.data.toList with
 |nil=>rw[e] at h;simp at h
 |cons b l=>
  rw[e] at h;refine⟨b,l,rfl,?_⟩;intro hb;subst hb;simp at h
theorem Aw.c3{w:World}{g:Nat}{a b c:Value}{t:TypeId}(h:Aw w g #[a,b,c] t):w.cell? ⟨g,0,none⟩=some a∧w.cell? ⟨g,1,none⟩=some b∧w.cell? ⟨g,2,none⟩=some c:=⟨h.cell 0,h.cell 1,h.cell 2⟩
theorem Aw.x3{w:World}{g:Nat}{t:TypeId}(h:Aw w g At t):w.cell? ⟨g,0,none⟩=some (.slice none 0 0)∧w.cell? ⟨g,1,none⟩=some (.slice none 0 0)∧w.cell? ⟨g,2,none⟩=some (.slice none 0 0)∧w.frozen? ⟨g,0,none⟩=false∧w.frozen? ⟨g,1,none⟩=false∧w.frozen? ⟨g,2,none⟩=false:=⟨h.cell 0,h.cell 1,h.cell 2,h.frozen 0,h.frozen 1,h.frozen 2⟩
structure BM(w W:World)(lo Bo:Nat)(a b c a' b' c':Value)(k k':B9):Prop where
 base:Below w.heap.size w W
 kc:Aw W w.heap.size #[a,b,c] 34
 kr:Aw W (w.heap.size+1) At 34
 ko:Aw W Bo #[a',b',c'] 34
 rd:AV W a b c k
 own:Cj (Iv lo Bo) W a' b' c' k'
 hlo:w.heap.size+2≤lo
 hlb:lo≤Bo
theorem Cj.same{S:Bk}{w w':World}{a b c:Value}{k:B9}(h:Cj S w a b c k)(hs:IR S w w'):Cj S w' a b c k:=by
 obtain⟨Sa,Sb,Sc,h1,h2,h3,h4,h5,h6,o1,o2,o3⟩:=h;exact⟨Sa,Sb,Sc,h1,h2,h3,h4,h5,h6,(A3 (A3 A2)).same (fun b hb=>hs b (h1 b hb)) o1,(A3 A2).same (fun b hb=>hs b (h2 b hb)) o2,(A3 A2).same (fun b hb=>hs b (h3 b hb)) o3⟩
theorem Cj.mono{S S':Bk}{w:World}{a b c:Value}{k:B9}(h:Cj S w a b c k)(hs:∀x,S x→S' x):Cj S' w a b c k:=by
 obtain⟨Sa,Sb,Sc,h1,h2,h3,h4,h5,h6,o1,o2,o3⟩:=h;exact⟨Sa,Sb,Sc,fun x hx=>hs x (h1 x hx),fun x hx=>hs x (h2 x hx),fun x hx=>hs x (h3 x hx),h4,h5,h6,o1,o2,o3⟩
theorem BM.keep{w W W':World}{lo Bo:Nat}{a b c a' b' c':Value}{k k':B9}(h:BM w W lo Bo a b c a' b' c' k k')(y:Below W.heap.size W W'):BM w W' lo Bo a b c a' b' c' k k':=
 ⟨h.base.trans_pure y (Nat.le_refl _),h.kc.keep y,h.kr.keep y,h.ko.keep y,h.rd.keep y,h.own.same (A5 y fun _ hx=>by have:=hx.2;have:=h.ko.lt;omega),h.hlo,h.hlb⟩
theorem BM.drew{w W:World}{lo Bo:Nat}{a b c a' b' c':Value}{k k':B9}(h:BM w W lo Bo a b c a' b' c' k k'):BM w W.drew lo Bo a b c a' b' c' k k':=h.keep (Below.refl _ _).drew
structure LT(w W:World)(a' b' c':Value)(k':B9):Prop where
 base:Below w.heap.size w W
 kr:Aw W (w.heap.size+1) At 34
 own:Cj (fun x=>w.heap.size+2≤x∧x<W.heap.size) W a' b' c' k'
theorem BM.done{w W:World}{lo Bo:Nat}{a b c a' b' c':Value}{k k':B9}(h:BM w W lo Bo a b c a' b' c' k k'):LT w W a' b' c' k':=
 ⟨h.base,h.kr,h.own.mono fun x hx=>by have h1:=hx.1;have h2:=hx.2;have h3:=h.hlo;have h4:=h.ko.lt;omega⟩
theorem LT.keep{w W W':World}{a' b' c':Value}{k':B9}(h:LT w W a' b' c' k')(y:Below W.heap.size W W'):LT w W' a' b' c' k':=
 ⟨h.base.trans_pure y (Nat.le_refl _),h.kr.keep y,(h.own.same (A5 y fun _ hx=>hx.2)).mono fun _ hx=>⟨hx.1,Nat.lt_of_lt_of_le hx.2 y.size⟩⟩
theorem BM.put{w W W':World}{lo Bo l h:Nat}{a b c a' b' c' mv:Value}{k k':B9}{m:List (List Int)}(st:BM w W lo Bo a b c a' b' c' k k')(ov:A4 32 (A4 3 A7) (Iv l h) W mv m)(hl:Bo<l)(hh:h≤W.heap.size)(on:Ar (fun x=>x=Bo) W W'):LT w W' mv b' c' ⟨m,k'.rows,k'.cols⟩:=by
 have h1:=st.hlo;have h2:=st.hlb;have h3:=st.ko.lt;have h4:=on.size;have h5:w.heap.size≤W.heap.size:=st.base.size;obtain⟨Sa,Sb,Sc,s1,s2,s3,d1,d2,d3,o1,o2,o3⟩:=st.own;refine⟨st.base.trans (on.below (by omega) (fun b hb=>by have:b=Bo:=hb;omega)),st.kr.only on (fun e=>by have:w.heap.size+1=Bo:=e;omega),⟨Iv l h,Sb,Sc,?_,?_,?_,?_,?_,d3,?_,?_,?_⟩⟩
 ·intro x hx;have:=hx.1;have:=hx.2;omega
 ·intro x hx;have:=(s2 x hx).1;have:=(s2 x hx).2;omega
 ·intro x hx;have:=(s3 x hx).1;have:=(s3 x hx).2;omega
 ·intro x hx hy;have:=hx.1;have:=(s2 x hy).2;omega
 ·intro x hx hy;have:=hx.1;have:=(s3 x hy).2;omega
 ·exact A4.only (A3 A2) ov on (fun b hb=>by have:=hb.2;omega) (fun b hb e=>by have:=hb.1;have:b=Bo:=e;omega)
 ·exact A4.only A2 o2 on (fun b hb=>by have:=(s2 b hb).2;omega) (fun b hb e=>by have:=(s2 b hb).2;have:b=Bo:=e;omega)
 ·exact A4.only A2 o3 on (fun b hb=>by have:=(s3 b hb).2;omega) (fun b hb e=>by have:=(s3 b hb).2;have:b=Bo:=e;omega)
theorem LT.fin{w W:World}{a' b' c':Value}{k':B9}(h:LT w W a' b' c' k'):
  let W5:=((W.setCell ⟨w.heap.size+1,0,none⟩ a').setCell ⟨w.heap.size+1,1,none⟩ b').setCell ⟨w.heap.size+1,2,none⟩ c'
  (W5.cell? ⟨w.heap.size+1,0,none⟩=some a'∧W5.cell? ⟨w.heap.size+1,1,none⟩=some b'∧W5.cell? ⟨w.heap.size+1,2,none⟩=some c')∧∀t:ByteArray,AG w (k',t) (.returned (.tuple #[.agg #[a',b',c'],.string t])) W5:=by
 intro W5;have hJ:=Aw.set3 (a:=a') (b:=b') (c:=c') h.kr;have e0:=hJ.cell 0;have e1:=hJ.cell 1;have e2:=hJ.cell 2;simp only[List.getElem?_toArray,List.getElem?_cons_zero,List.getElem?_cons_succ] at e0 e1 e2;refine⟨⟨e0,e1,e2⟩,fun t=>⟨a',b',c',rfl,?_,Below.set3 h.base (by omega) _ _ _⟩⟩;refine(h.own.same (fun x hx=>Io W (w.heap.size+1) a' b' c' x (by have:=hx.1;omega))).mono fun x hx=>⟨by have:=hx.1;omega,?_⟩;show x<W5.heap.size;rw[Is];exact hx.2
theorem BM.start{w w1:World}{k:B9}{a1 b1 d1 p1 q1 r1:Option Addr}{a2 a3 b2 b3 d2 d3 p2 p3 q2 q3 r2 r3:Nat}{W0:World}
  (gI:W0=(w.alloc (.cells #[.slice a1 a2 a3,.slice b1 b2 b3,.slice d1 d2 d3] 34)).alloc (.cells At 34))(h:AV w (.slice a1 a2 a3) (.slice b1 b2 b3) (.slice d1 d2 d3) k)
  (y:Below W0.heap.size W0 w1)(ho:Cj (Iv W0.heap.size w1.heap.size) w1 (.slice p1 p2 p3) (.slice q1 q2 q3) (.slice r1 r2 r3) k):
  BM w (w1.alloc (.cells #[.slice p1 p2 p3,.slice q1 q2 q3,.slice r1 r2 r3] 34)) W0.heap.size w1.heap.size (.slice a1 a2 a3) (.slice b1 b2 b3) (.slice d1 d2 d3) (.slice p1 p2 p3) (.slice q1 q2 q3) (.slice r1 r2 r3) k k:=by
 have nV:Below w.heap.size w W0:=by rw[gI];exact((Below.refl _ _).alloc (Nat.le_refl _) _).alloc (by simp) _
 have kc:Aw W0 w.heap.size #[.slice a1 a2 a3,.slice b1 b2 b3,.slice d1 d2 d3] 34:=by rw[gI];exact(Aw.new w _ _).keep (Below.pureAlloc _ _)
 have kr:Aw W0 (w.heap.size+1) At 34:=by
  rw[gI];have:=Aw.new (w.alloc (.cells #[.slice a1 a2 a3,.slice b1 b2 b3,.slice d1 d2 d3] 34)) At 34;simpa using this
 have z0:W0.heap.size=w.heap.size+2:=by rw[gI];simp
 have y2:=Below.pureAlloc w1 (.cells #[.slice p1 p2 p3,.slice q1 q2 q3,.slice r1 r2 r3] 34);have yy:=y.trans_pure y2 (Nat.le_refl _);refine⟨nV.trans_pure yy (Nat.le_refl _),kc.keep yy,kr.keep yy,Aw.new w1 _ _,(h.keep nV).keep yy,ho.same (A5 y2 fun _ hx=>hx.2),by omega,y.size⟩
theorem A00(a b c:Value)(k:B9)(s:ByteArray)(w:World)(h:AV w a b c k)(hs:Az k)(aE:AH s=true):Calls Tryz.prog 13 #[.agg #[a,b,c],.string s] w (AG w (k,⟨#[]⟩)):=by
 obtain⟨⟨a1,a2,a3,rfl⟩,⟨b1,b2,b3,rfl⟩,⟨d1,d2,d3,rfl⟩⟩:=h.shape;have aN:=Aw.keep (Aw.new w #[.slice a1 a2 a3,.slice b1 b2 b3,.slice d1 d2 d3] 34) (Below.pureAlloc _ (.cells At 34));have aX:Below w.heap.size w ((w.alloc (.cells #[.slice a1 a2 a3,.slice b1 b2 b3,.slice d1 d2 d3] 34)).alloc (.cells At 34)):=((Below.refl _ _).alloc (Nat.le_refl _) _).alloc (by simp) _;have HC:=Z (h.keep aX);have Hh:=Z h;have Hs:=Z hs;have c0:=aN.cell 0;have c1:=aN.cell 1;have c2:=aN.cell 2;simp only[List.getElem?_toArray,List.getElem?_cons_zero,List.getElem?_cons_succ] at c0 c1 c2;clear h hs aX aN;rcases NR aE with rfl|⟨l,hl⟩
 ·clear aE;go_enter Tryz.func13,Tryz.ntmps13;go_wp2_with (fail);refine(Ah _ _ _ k _ HC.o Hs.o).mono ?_;rintro e w1 ⟨va,vb,vc,rfl,ho,y1⟩;obtain⟨⟨p1,p2,p3,rfl⟩,⟨q1,q2,q3,rfl⟩,⟨r1,r2,r3,rfl⟩⟩:=ho.rd.shape;have St:=Z (BM.start rfl Hh.o y1 ho);have x0:=St.o.kr.cell 0;have x1:=St.o.kr.cell 1;have x2:=St.o.kr.cell 2;have f0:=St.o.kr.frozen 0;have f1:=St.o.kr.frozen 1;have f2:=St.o.kr.frozen 2;have o0:=St.o.ko.cell 0;have o1:=St.o.ko.cell 1;have o2:=St.o.ko.cell 2;simp only[List.getElem?_toArray,List.getElem?_cons_zero,List.getElem?_cons_succ] at x0 x1 x2 o0 o1 o2;clear ho y1 c0 c1 c2;go_wp2;obtain⟨⟨e0,e1,e2⟩,aF⟩:=St.o.done.fin;refine bodyPost_ret (v:=.tuple #[.agg #[.slice p1 p2 p3,.slice q1 q2 q3,.slice r1 r2 r3],.string ⟨#[]⟩]) (by simp[results,Tryz.results13,go_sem,e0,e1,e2]) rfl (aF _)
 ·have aI:0<s.size:=by rw[D8,hl];simp
  have cZ:s[0]=35:=by
   have:=L8 aI;rw[hl] at this;simpa using this.symm
  have dJ:((s[0].toNat:Int)==35)=true:=WY cZ;have aO:s.toList.isEmpty=false:=C7 (by intro e;rw[e] at aI;simp at aI);clear aE hl cZ;go_enter Tryz.func13,Tryz.ntmps13;go_wp2_with (fail);refine(Ah _ _ _ k _ HC.o Hs.o).mono ?_;rintro e w1 ⟨va,vb,vc,rfl,ho,y1⟩;obtain⟨⟨p1,p2,p3,rfl⟩,⟨q1,q2,q3,rfl⟩,⟨r1,r2,r3,rfl⟩⟩:=ho.rd.shape;have St:=Z (BM.start rfl Hh.o y1 ho);have x0:=St.o.kr.cell 0;have x1:=St.o.kr.cell 1;have x2:=St.o.kr.cell 2;have f0:=St.o.kr.frozen 0;have f1:=St.o.kr.frozen 1;have f2:=St.o.kr.frozen 2;have o0:=St.o.ko.cell 0;have o1:=St.o.ko.cell 1;have o2:=St.o.ko.cell 2;simp only[List.getElem?_toArray,List.getElem?_cons_zero,List.getElem?_cons_succ] at x0 x1 x2 o0 o1 o2;clear ho y1 c0 c1 c2;go_wp2;obtain⟨⟨e0,e1,e2⟩,aF⟩:=St.o.done.fin;refine bodyPost_ret (v:=.tuple #[.agg #[.slice p1 p2 p3,.slice q1 q2 q3,.slice r1 r2 r3],.string ⟨#[]⟩]) (by simp[results,Tryz.results13,go_sem,e0,e1,e2]) rfl (aF _)

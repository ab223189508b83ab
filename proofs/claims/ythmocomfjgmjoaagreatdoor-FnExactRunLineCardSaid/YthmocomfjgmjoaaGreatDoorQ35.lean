/- Base. -/
import Derived.Test.YthmocomfjgmjoaaGreatDoorQ34
import Derived.Test.YthmocomfjgmjoaaGreatDoorQ24
import Derived.Test.YthmocomfjgmjoaaGreatDoorQ25
set_option maxHeartbeats 4000000
set_option maxRecDepth 100000
namespace Go.Proofs.YthmocomfjgmjoaaGreatDoor
open Go.RowKit Go.Proofs.Tryz
variable {Bo:Nat}{S:Bk}{W W':World}{a a':Value}{a1:Option Addr}{a2 a3:Nat}{al:List ByteArray}{b b':Value}{b1:Option Addr}{b2 b3:Nat}{c c':Value}{e:Ending}{g h h2 h3:Nat}{k k':BU}{l:List ByteArray}{l2 l3 lo:Nat}{m:I}{o:Option I}{s:ByteArray}{t:TypeId}{vb vc:Value}{w w':World}{wd:ByteArray}{x y:U}
theorem Oj(h:CA s=true):s=⟨#[]⟩∨∃l,s.data.toList=35::l:=by
 unfold CA at h;cases e:s.data.toList with
 |nil=>exact .inl (DX (by rw[e]))
 |cons b l=>
  rw[e]at h;simp at h;exact .inr ⟨l,by rw[h]⟩
theorem Tp(h:CA s=false):∃b l,s.data.toList=b::l∧b≠35:=by
 unfold CA at h;cases e:s.data.toList with
 |nil=>rw[e]at h;simp at h
 |cons b l=>
  rw[e]at h;refine⟨b,l,rfl,?_⟩;intro hb;subst hb;simp at h
theorem B9.c3(h:B9 w g #[a,b,c] t):w.cell? ⟨g,0,none⟩=some a∧w.cell? ⟨g,1,none⟩=some b∧w.cell? ⟨g,2,none⟩=some c:=⟨h.cell 0,h.cell 1,h.cell 2⟩
theorem B9.x3(h:B9 w g BS t):w.cell? ⟨g,0,none⟩=some (.slice none 0 0)∧w.cell? ⟨g,1,none⟩=some (.slice none 0 0)∧w.cell? ⟨g,2,none⟩=some (.slice none 0 0)∧w.frozen? ⟨g,0,none⟩=false∧w.frozen? ⟨g,1,none⟩=false∧w.frozen? ⟨g,2,none⟩=false:=⟨h.cell 0,h.cell 1,h.cell 2,h.frozen 0,h.frozen 1,h.frozen 2⟩
structure EF(w W:World)(lo Bo:Nat)(a b c a' b' c':Value)(k k':BU):Prop where
 base:Below w.heap.size w W
 kc:B9 W w.heap.size #[a,b,c] 34
 kr:B9 W (w.heap.size+1) BS 34
 ko:B9 W Bo #[a',b',c'] 34
 rd:BV W a b c k
 own:Cx (Iv lo Bo) W a' b' c' k'
 hlo:w.heap.size+2≤lo
 hlb:lo≤Bo
theorem Cx.same(h:Cx S w a b c k)(hs:Jb S w w'):Cx S w' a b c k:=by
 obtain⟨Sa,Sb,Sc,h1,h2,h3,h4,h5,h6,o1,o2,o3⟩:=h;exact⟨Sa,Sb,Sc,h1,h2,h3,h4,h5,h6,(Ab (Ab A8)).same (fun b hb=>hs b (h1 b hb)) o1,(Ab A8).same (fun b hb=>hs b (h2 b hb)) o2,(Ab A8).same (fun b hb=>hs b (h3 b hb)) o3⟩
theorem Cx.mono{S':Bk}(h:Cx S w a b c k)(hs:∀x,S x→S' x):Cx S' w a b c k:=by
 obtain⟨Sa,Sb,Sc,h1,h2,h3,h4,h5,h6,o1,o2,o3⟩:=h;exact⟨Sa,Sb,Sc,fun x hx=>hs x (h1 x hx),fun x hx=>hs x (h2 x hx),fun x hx=>hs x (h3 x hx),h4,h5,h6,o1,o2,o3⟩
theorem EF.keep(h:EF w W lo Bo a b c a' b' c' k k')(y:Below W.heap.size W W'):EF w W' lo Bo a b c a' b' c' k k':=
 ⟨h.base.qaa y (A2 _),h.kc.keep y,h.kr.keep y,h.ko.keep y,h.rd.keep y,h.own.same (Ac y fun _ hx=>by have:=hx.2;have:=h.ko.lt;omega),h.hlo,h.hlb⟩
theorem EF.drew(h:EF w W lo Bo a b c a' b' c' k k'):EF w W.drew lo Bo a b c a' b' c' k k':=h.keep (A6 _ _).drew
structure LW(w W:World)(a' b' c':Value)(k':BU):Prop where
 base:Below w.heap.size w W
 kr:B9 W (w.heap.size+1) BS 34
 own:Cx (fun x=>w.heap.size+2≤x∧x<W.heap.size) W a' b' c' k'
theorem EF.done(h:EF w W lo Bo a b c a' b' c' k k'):LW w W a' b' c' k':=
 ⟨h.base,h.kr,h.own.mono fun x hx=>by have h1:=hx.1;have h2:=hx.2;have h3:=h.hlo;have h4:=h.ko.lt;omega⟩
theorem LW.keep(h:LW w W a' b' c' k')(y:Below W.heap.size W W'):LW w W' a' b' c' k':=
 ⟨h.base.qaa y (A2 _),h.kr.keep y,(h.own.same (Ac y fun _ hx=>hx.2)).mono fun _ hx=>⟨hx.1,Aa hx.2 y.size⟩⟩
theorem EF.put{l:Nat}{mv:Value}(st:EF w W lo Bo a b c a' b' c' k k')(ov:Ag 32 (Ag 3 Ap) (Iv l h) W mv m)(hl:Bo<l)(hh:h≤W.heap.size)(on:AO (fun x=>x=Bo) W W'):LW w W' mv b' c' ⟨m,k'.rows,k'.cols⟩:=by
 have h1:=st.hlo;have h2:=st.hlb;have h3:=st.ko.lt;have h4:=on.size;have h5:w.heap.size≤W.heap.size:=st.base.size;obtain⟨Sa,Sb,Sc,s1,s2,s3,d1,d2,d3,o1,o2,o3⟩:=st.own;refine⟨st.base.trans (on.below J (fun b hb=>by have:b=Bo:=hb;omega)),st.kr.only on (fun e=>by have:w.heap.size+1=Bo:=e;omega),⟨Iv l h,Sb,Sc,?_,?_,?_,?_,?_,d3,?_,?_,?_⟩⟩
 ·intro x hx;have:=hx.1;have:=hx.2;omega
 ·intro x hx;have:=(s2 x hx).1;have:=(s2 x hx).2;omega
 ·intro x hx;have:=(s3 x hx).1;have:=(s3 x hx).2;omega
 ·intro x hx hy;have:=hx.1;have:=(s2 x hy).2;omega
 ·intro x hx hy;have:=hx.1;have:=(s3 x hy).2;omega
 ·exact Ag.only (Ab A8) ov on (fun b hb=>by have:=hb.2;omega) (fun b hb e=>by have:=hb.1;have:b=Bo:=e;omega)
 ·exact Ag.only A8 o2 on (fun b hb=>by have:=(s2 b hb).2;omega) (fun b hb e=>by have:=(s2 b hb).2;have:b=Bo:=e;omega)
 ·exact Ag.only A8 o3 on (fun b hb=>by have:=(s3 b hb).2;omega) (fun b hb e=>by have:=(s3 b hb).2;have:b=Bo:=e;omega)
theorem LW.fin(h:LW w W a' b' c' k'):
  let W5:=((W.setCell ⟨w.heap.size+1,0,none⟩ a').setCell ⟨w.heap.size+1,1,none⟩ b').setCell ⟨w.heap.size+1,2,none⟩ c'
  (W5.cell? ⟨w.heap.size+1,0,none⟩=some a'∧W5.cell? ⟨w.heap.size+1,1,none⟩=some b'∧W5.cell? ⟨w.heap.size+1,2,none⟩=some c')∧∀t:ByteArray,Dd w (k',t) (.returned (.tuple #[.agg #[a',b',c'],.string t])) W5:=by
 intro W5;have ia:=B9.qaz (a:=a') (b:=b') (c:=c') h.kr;have e0:=ia.cell 0;have e1:=ia.cell 1;have e2:=ia.cell 2;simp only[Av,Aw,AB]at e0 e1 e2;refine⟨⟨e0,e1,e2⟩,fun t=>⟨a',b',c',rfl,?_,Below.qaz h.base J _ _ _⟩⟩;refine(h.own.same (fun x hx=>GE W (w.heap.size+1) a' b' c' x (by have:=hx.1;omega))).mono fun x hx=>⟨by have:=hx.1;omega,?_⟩;show x<W5.heap.size;rw[GS];exact hx.2
theorem EF.start{w1:World}{d1 p1 q1 r1:Option Addr}{d2 d3 p2 p3 q2 q3 r2 r3:Nat}{W0:World}
  (gN:W0=(w.alloc (.cells #[.slice a1 a2 a3,.slice b1 b2 b3,.slice d1 d2 d3] 34)).alloc (.cells BS 34))(h:BV w (.slice a1 a2 a3) (.slice b1 b2 b3) (.slice d1 d2 d3) k)
  (y:Below W0.heap.size W0 w1)(ho:Cx (Iv W0.heap.size w1.heap.size) w1 (.slice p1 p2 p3) (.slice q1 q2 q3) (.slice r1 r2 r3) k):
  EF w (w1.alloc (.cells #[.slice p1 p2 p3,.slice q1 q2 q3,.slice r1 r2 r3] 34)) W0.heap.size w1.heap.size (.slice a1 a2 a3) (.slice b1 b2 b3) (.slice d1 d2 d3) (.slice p1 p2 p3) (.slice q1 q2 q3) (.slice r1 r2 r3) k k:=by
 have n8:Below w.heap.size w W0:=by rw[gN];exact((A6 _ _).alloc (A2 _) _).alloc Jj _
 have kc:B9 W0 w.heap.size #[.slice a1 a2 a3,.slice b1 b2 b3,.slice d1 d2 d3] 34:=by rw[gN];exact(B9.new w _ _).keep (Below.qab _ _)
 have kr:B9 W0 (w.heap.size+1) BS 34:=by
  rw[gN];have:=B9.new (w.alloc (.cells #[.slice a1 a2 a3,.slice b1 b2 b3,.slice d1 d2 d3] 34)) BS 34;simpa using this
 have z0:W0.heap.size=w.heap.size+2:=by rw[gN];simp
 have y2:=Below.qab w1 (.cells #[.slice p1 p2 p3,.slice q1 q2 q3,.slice r1 r2 r3] 34);have yy:=y.qaa y2 (A2 _);refine⟨n8.qaa yy (A2 _),kc.keep yy,kr.keep yy,B9.new w1 _ _,(h.keep n8).keep yy,ho.same (Ac y2 fun _ hx=>hx.2),J,y.size⟩
theorem Zy(a b c:Value)(k:BU)(s:ByteArray)(w:World)(h:BV w a b c k)(hs:BL k)(aJ:CA s=true):Calls prog 13 #[.agg #[a,b,c],.string s] w (Dd w (k,⟨#[]⟩)):=by
 obtain⟨⟨a1,a2,a3,rfl⟩,⟨b1,b2,b3,rfl⟩,⟨d1,d2,d3,rfl⟩⟩:=h.shape;have ap:=B9.keep (B9.new w #[.slice a1 a2 a3,.slice b1 b2 b3,.slice d1 d2 d3] 34) (Below.qab _ (.cells BS 34));have bu:Below w.heap.size w ((w.alloc (.cells #[.slice a1 a2 a3,.slice b1 b2 b3,.slice d1 d2 d3] 34)).alloc (.cells BS 34)):=((A6 _ _).alloc (A2 _) _).alloc Jj _;have HC:=Z (h.keep bu);have Hh:=Z h;have Hs:=Z hs;have c0:=ap.cell 0;have c1:=ap.cell 1;have c2:=ap.cell 2;simp only[Av,Aw,AB]at c0 c1 c2;clear h hs bu ap;rcases Oj aJ with rfl|⟨l,hl⟩
 ·clear aJ;go_enter func13,ntmps13;go_wp2_with fail;refine(Co _ _ _ k _ HC.o Hs.o).mono ?_;rintro e w1 ⟨va,vb,vc,rfl,ho,y1⟩;obtain⟨⟨p1,p2,p3,rfl⟩,⟨q1,q2,q3,rfl⟩,⟨r1,r2,r3,rfl⟩⟩:=ho.rd.shape;have St:=Z (EF.start rfl Hh.o y1 ho);have x0:=St.o.kr.cell 0;have x1:=St.o.kr.cell 1;have x2:=St.o.kr.cell 2;have f0:=St.o.kr.frozen 0;have f1:=St.o.kr.frozen 1;have f2:=St.o.kr.frozen 2;have o0:=St.o.ko.cell 0;have o1:=St.o.ko.cell 1;have o2:=St.o.ko.cell 2;simp only[Av,Aw,AB]at x0 x1 x2 o0 o1 o2;clear ho y1 c0 c1 c2;go_wp2;obtain⟨⟨e0,e1,e2⟩,aE⟩:=St.o.done.fin;refine Jz #[.agg #[.slice p1 p2 p3,.slice q1 q2 q3,.slice r1 r2 r3],.string ⟨#[]⟩] (by simp[results,results13,go_sem,e0,e1,e2]) (aE _)
 ·have aM:0<s.size:=by rw[Dk,hl];simp
  have ee:s[0]=35:=by
   have:=Lz aM;rw[hl]at this;simpa using this.symm
  have cu:((s[0].toNat:Int)==35)=true:=WZ ee;have aK:s.toList.isEmpty=false:=D0 (by intro e;rw[e]at aM;simp at aM);clear aJ hl ee;go_enter func13,ntmps13;go_wp2_with fail;refine(Co _ _ _ k _ HC.o Hs.o).mono ?_;rintro e w1 ⟨va,vb,vc,rfl,ho,y1⟩;obtain⟨⟨p1,p2,p3,rfl⟩,⟨q1,q2,q3,rfl⟩,⟨r1,r2,r3,rfl⟩⟩:=ho.rd.shape;have St:=Z (EF.start rfl Hh.o y1 ho);have x0:=St.o.kr.cell 0;have x1:=St.o.kr.cell 1;have x2:=St.o.kr.cell 2;have f0:=St.o.kr.frozen 0;have f1:=St.o.kr.frozen 1;have f2:=St.o.kr.frozen 2;have o0:=St.o.ko.cell 0;have o1:=St.o.ko.cell 1;have o2:=St.o.ko.cell 2;simp only[Av,Aw,AB]at x0 x1 x2 o0 o1 o2;clear ho y1 c0 c1 c2;go_wp2;obtain⟨⟨e0,e1,e2⟩,aE⟩:=St.o.done.fin;refine Jz #[.agg #[.slice p1 p2 p3,.slice q1 q2 q3,.slice r1 r2 r3],.string ⟨#[]⟩] (by simp[results,results13,go_sem,e0,e1,e2]) (aE _)
structure Bn(s:ByteArray):Prop where
 z0:(s.toList==[115,104,111,119])=false
 z1:(s.toList==[98,117,105,108,100])=false
 z2:(s.toList==[108,101,97,115,116])=false
 z3:(s.toList==[97,108,108])=false
 z4:(s.toList==[102,105,120,101,100])=false
 z5:(s.toList==[99,111,110,118,101,120])=false
 z6:(s.toList==[114,101,118,101,97,108])=false
 z7:(s.toList==[114,101,112,97,105,114])=false
 z8:(s.toList==[112,117,122,122,108,101])=false
noncomputable def BH (l:List ByteArray):U:=(l.filter AX).map Be
theorem Jx{j:Nat}{q:ByteArray}(h:l[j]? =some q):BH (l.take (j+1))=if AX q=true then BH (l.take j)++[Be q]else BH (l.take j):=by
 unfold BH;rw[Ao,h,List.filter_append,List.map_append];cases hy:AX q<;>simp[hy]
theorem Li(l:List ByteArray):(BH l).length≤l.length:=by
 unfold BH;rw[Ay];exact List.length_filter_le _ _
theorem L4(h:l.all AX=true):BH l=l.map Be:=by
 unfold BH;rw[List.filter_eq_self.2 (by simpa using h)]
theorem Mm(h:(BH l).length=l.length):l.all AX=true:=by
 unfold BH at h;rw[Ay]at h;have:=List.length_filter_eq_length_iff.1 h;simpa using this
theorem EC(h:CA s=false):∃h0:0<s.size,(((s[0]'h0).toNat:Int)==35)=false∧s.toList.isEmpty=false:=by
 obtain⟨b,l,hl,hb⟩:=Tp h;have aM:0<s.size:=by rw[Dk,hl];simp
 have bu:s[0]'aM=b:=by
  have:=Lz aM;rw[hl]at this;simpa using this.symm
 refine⟨aM,XH (a:=s[0]'aM) (b:=35) (by rw[bu];exact hb),D0 (by intro e;rw[e]at aM;simp at aM)⟩
theorem GN{b:UInt8}(h:AM s b=wd::al)(hs:s.size≤1048576):∀t∈al,t.size≤1048576:=
 fun t ht=>Aj (CZ s b t (by rw[h];exact AL _ ht)) hs
theorem IR{b:UInt8}(h:AM s b=wd::al)(hs:s.size≤1048576):al.length≤1048577:=by
 have:=EY s b;rw[h,An]at this;omega
theorem CX.at1{n c:Nat}(h:CX w (.slice (some ⟨g,0,none⟩) n c) (wd::l)){k:Nat}{x:ByteArray}(hk:l[k]? =some x):w.cell? ⟨g,1+k,none⟩=some (.string x):=by
 rw[Nat.add_comm];exact CX.at0 h (k:=k+1) (by simpa using hk)
theorem AN{l:List UInt8}{t:ByteArray}(ht:t.data.toList=l)(h:s≠t):(s.toList==l)=false:=by
 have h1:s.toList≠l:=by
  intro e;apply h;apply DX;rw[ht,←e,ByteArray.toList_eq]
 simpa using h1
theorem Fj(h:AM s 32=wd::al)(aK:al≠[]){t:ByteArray}(ht:AM t 32=[t]):s≠t:=by
 intro e;rw[e,ht]at h;simp at h;exact aK h.2
def A40(c:BU)(m:I):Option I→BU×ByteArray
 |none=>(c,C7)
 |some x=>(c,AD x++⟨#[32]⟩++AQ (BR c.rows.length c.cols.length x m))
def OM(c:BU)(m:I):BU×ByteArray:=A40 c m (Fk c.rows c.cols m)
theorem XS(c:BU)(m:I)(h:Fk c.rows c.cols m=o):OM c m=A40 c m o:=by
 subst h;rfl
theorem Wu{xs ys:U}{p x:I}(h:Fk xs ys p=some x):Cc (BR xs.length ys.length x p):=by
 have hok:AT xs ys=true:=by
  cases hz:AT xs ys with
  |true=>rfl
  |false=>
   unfold Fk at h;rw[show Bt xs ys=[]from by unfold Bt;rw[hz];rfl]at h
   split at h<;>simp[Xk]at h
 obtain⟨-,x5,-,y5,-⟩:=BG hok;obtain⟨d1,d2⟩:=Gf ys.length x p xs.length;have h25:xs.length*ys.length≤5*5:=Nat.mul_le_mul x5 y5;exact Cc.small J J
theorem YJ(x:I){D:Int}(hD:Cc D):(AD x).size≤1000∧(AD x++⟨#[32]⟩:ByteArray).size≤1001∧(AQ D).size≤20:=by
 have a:=F3 x;have e2:(⟨#[32]⟩:ByteArray).size=1:=rfl;refine⟨a,?_,CW hD⟩;rw[AR,e2];omega
theorem T6(m:I)(y x:Int):-1≤Kn m y x∧Kn m y x≤1:=by
 cases hh:N6 m y x
 ·simp[Kn,hh]
 ·have e:Kn m y x=AJ m y.toNat x.toNat:=by simp[Kn,hh]
  have hok:AC m=true:=by unfold N6 at hh;rw[Af]at hh;exact hh.1
  obtain⟨r,c,h1,h2,h3,h4,hs⟩:=Az hok;have:=AS hs y.toNat x.toNat;rw[e];omega
theorem KU(m:I)(dx dy:Int):(BQ m dx dy).length≤25:=by
 by_cases h:AC m=true∧CI dx dy=true
 ·obtain⟨r,c,h1,h2,h3,h4,hs⟩:=Az h.1;rw[LK hs h1 h.1 h.2,MX,List.length_replicate];have:=Kr (FW h.2) h1 h2 h3 h4;omega
 ·rw[HZ h];simp
theorem Qy.nil(h:Qy w [] e w'):e=.returned (.slice none 0 0)∧Below w.heap.size w w':=by
 obtain⟨v,rfl,-,hb,h⟩:=h;rcases h with⟨rfl,-⟩|⟨g,c,-,hp⟩
 ·exact⟨rfl,hb⟩
 ·simp at hp
def A4q(w:World)(l:U)(e:Ending)(w':World):Prop:=∃g c,e=.returned (.slice (some ⟨g,0,none⟩) l.length c)∧Au w' (.slice (some ⟨g,0,none⟩) l.length c) l∧Below w.heap.size w w'
theorem Qy.cons{w:World}{l:U}{e:Ending}{w':World}(hl:l≠[])(h:Qy w l e w'):A4q w l e w':=by
 obtain⟨v,rfl,o,hb,h⟩:=h;rcases h with⟨-,h0⟩|⟨g,c,rfl,-⟩
 ·exact absurd h0 hl
 ·exact⟨g,c,rfl,o.ints,hb⟩
theorem CC(w:World)(g:Nat)(a b c:Value){p:Addr}(hp:p.block≠g):(((w.setCell ⟨g,0,none⟩ a).setCell ⟨g,1,none⟩ b).setCell ⟨g,2,none⟩ c).cell? p=w.cell? p:=World.cell?_of_block (GE w g a b c p.block hp)
theorem EF.qcj{l1 h1:Nat}{va:Value}(st:EF w W lo Bo a b c a' b' c' k k')(oa:Ag 32 (Ag 3 Ap) (Iv l1 h1) W va m)(ob:Ag 3 Ap (Iv l2 h2) W vb x)(oc:Ag 3 Ap (Iv l3 h3) W vc y)
  (hl:Bo<l1)(fl:Bo<l2)(e1:h1≤l2)(e2:h2≤l3)(e3:h3≤W.heap.size)(e4:h1≤l3)(j6:Bo<l3)(e5:h1≤W.heap.size)(e6:h2≤W.heap.size)(on:AO (fun x=>x=Bo) W W'):LW w W' va vb vc ⟨m,x,y⟩:=by
 have g1:=st.hlo;have g2:=st.hlb;have g3:=st.ko.lt;have g4:=on.size;have g5:w.heap.size≤W.heap.size:=st.base.size;refine⟨st.base.trans (on.below J (fun b hb=>by have:b=Bo:=hb;omega)),st.kr.only on (fun e=>by have:w.heap.size+1=Bo:=e;omega),Cx.of (l1:=l1) (h1:=h1) (l2:=l2) (h2:=h2) (l3:=l3) (h3:=h3) ?_ ?_ ?_ ?_ ?_ ?_ (.inl e1) (.inl e4) (.inl e2)⟩
 ·exact Ag.only (Ab A8) oa on (fun b hb=>by have:=hb.2;omega) (fun b hb e=>by have:=hb.1;have:b=Bo:=e;omega)
 ·exact Ag.only A8 ob on (fun b hb=>by have:=hb.2;omega) (fun b hb e=>by have:=hb.1;have:b=Bo:=e;omega)
 ·exact Ag.only A8 oc on (fun b hb=>by have:=hb.2;omega) (fun b hb e=>by have:=hb.1;have:b=Bo:=e;omega)
 ·intro _ hx;have:=hx.1;have:=hx.2;omega
 ·intro _ hx;have:=hx.1;have:=hx.2;omega
 ·intro _ hx;have:=hx.1;have:=hx.2;omega
theorem EF.qci(st:EF w W lo Bo a b c a' b' c' k k')(ob:Ag 3 Ap (Iv l2 h2) W vb x)(oc:Ag 3 Ap (Iv l3 h3) W vc y)
  (fl:Bo<l2)(e2:h2≤l3)(e3:h3≤W.heap.size)(j6:Bo<l3)(e6:h2≤W.heap.size)(on:AO (fun x=>x=Bo) W W'):LW w W' a' vb vc ⟨k'.img,x,y⟩:=by
 have g1:=st.hlo;have g2:=st.hlb;have g3:=st.ko.lt;have g4:=on.size;have g5:w.heap.size≤W.heap.size:=st.base.size;obtain⟨Sa,Sb,Sc,s1,s2,s3,d1,d2,d3,o1,o2,o3⟩:=st.own;refine⟨st.base.trans (on.below J (fun b hb=>by have:b=Bo:=hb;omega)),st.kr.only on (fun e=>by have:w.heap.size+1=Bo:=e;omega),⟨Sa,Iv l2 h2,Iv l3 h3,?_,?_,?_,?_,?_,?_,?_,?_,?_⟩⟩
 ·intro x hx;have:=(s1 x hx).1;have:=(s1 x hx).2;omega
 ·intro _ hx;have:=hx.1;have:=hx.2;omega
 ·intro _ hx;have:=hx.1;have:=hx.2;omega
 ·intro x hx hy;have:=hy.1;have:=(s1 x hx).2;omega
 ·intro x hx hy;have:=hy.1;have:=(s1 x hx).2;omega
 ·intro x hx hy;have:=hx.2;have:=hy.1;omega
 ·exact Ag.only (Ab A8) o1 on (fun b hb=>by have:=(s1 b hb).2;omega) (fun b hb e=>by have:=(s1 b hb).2;have:b=Bo:=e;omega)
 ·exact Ag.only A8 ob on (fun b hb=>by have:=hb.2;omega) (fun b hb e=>by have:=hb.1;have:b=Bo:=e;omega)
 ·exact Ag.only A8 oc on (fun b hb=>by have:=hb.2;omega) (fun b hb e=>by have:=hb.1;have:b=Bo:=e;omega)
def A48(w W:World)(Bo:Nat)(b c:Value)(r:BU×ByteArray)(e:Ending)(w':World):Prop:=∃x1 x2 x3,e=.returned (.tuple #[.agg #[.slice x1 x2 x3,b,c],.string r.2])∧LW w w' (.slice x1 x2 x3) b c r.1∧AO (fun x=>x=Bo) W w'
theorem A0m{l:Nat}{c1 m1:Option Addr}{c2 c3 m2 m3:Nat}(st:EF w W lo Bo a b c (.slice a1 a2 a3) (.slice b1 b2 b3) (.slice c1 c2 c3) k k')
  (om:Ag 32 (Ag 3 Ap) (Iv l h) W (.slice m1 m2 m3) (o.getD []))(hl:Bo<l)(hh:h≤W.heap.size):
  Calls prog 29 #[.slice m1 m2 m3,.bool o.isSome,.pointer (some ⟨Bo,0,none⟩)] W (A48 w W Bo (.slice b1 b2 b3) (.slice c1 c2 c3) (Fp k' o)):=by
 cases o with
 |none=>
  refine(YR Bo _ _ _ _ _ _ _ _ _ _ _ _ _ st.ko).mono ?_;rintro e w' ⟨rfl,y⟩;exact⟨_,_,_,rfl,(st.keep y).done,AO.qaj y _⟩
 |some m=>
  refine(Vq Bo l h _ _ _ _ _ _ _ _ _ _ _ _ m _ st.ko om hh (.inl hl)).mono ?_;rintro e w' ⟨rfl,on⟩;exact⟨_,_,_,rfl,st.put om hl hh on,on⟩

/- Base. -/
import Derived.WalkKit
import Derived.ProofKit
import Derived.Lib.Hide
import Derived.Deep.DeepMust
import Derived.Deep.Draws
import Derived.Laws.AppendOwnNone
import Derived.Deep.RegionLaw
namespace Go.Proofs.YthmocomfjgmjoaaGreatDoor
open Go.RowKit
theorem Z{p:Prop}(h:p):Hid p:=h
theorem _root_.Go.RowKit.Hid.o{p:Prop}(h:Hid p):p:=h
def BV(n:Int):Prop:=-9223372036854775808≤n∧n≤9223372036854775807
theorem BV.o{n:Int}(h:BV n):-9223372036854775808≤n∧n≤9223372036854775807:=h
theorem BV.small{n:Int}(h1:-4611686018427387904≤n)(h2:n≤4611686018427387904):BV n:=⟨by omega,by omega⟩
abbrev Bk:=Nat→Prop
def Iv(lo hi:Nat):Bk:=fun b=>lo≤b∧b<hi
def IR(S:Bk)(w w':World):Prop:=∀b,S b→w'.heap[b]? =w.heap[b]?
abbrev CG(α:Type):=Bk→World→Value→α→Prop
structure M3{α:Type}(R:CG α):Prop where
 same:∀{S w w' u x},IR S w w'→R S w u x→R S w' u x
 mono:∀{S S' w u x},(∀b,S b→S' b)→R S w u x→R S' w u x
 inH:∀{S w u x},R S w u x→R (fun b=>S b∧b<w.heap.size) w u x
 one:∀{S w u x},R S w u x→u.oneCell'=true
def A7:CG Int:=fun _ _ u n=>u=.int .i64 n∧BV n
def Gd:CG ByteArray:=fun _ _ u s=>u=.string s∧s.size≤9223372036854775807
def Q5:CG Bool:=fun _ _ u s=>u=.bool s
theorem A2:M3 A7:=⟨fun _ h=>h,fun _ h=>h,fun h=>h,fun h=>by obtain⟨rfl,_⟩:=h;rfl⟩
theorem C1:M3 Gd:=⟨fun _ h=>h,fun _ h=>h,fun h=>h,fun h=>by obtain⟨rfl,_⟩:=h;rfl⟩
theorem T6:M3 Q5:=⟨fun _ h=>h,fun _ h=>h,fun h=>h,fun h=>by obtain rfl:=h;rfl⟩
def Sl{α:Type}(R:CG α):CG (List α):=fun S w v xs=>
 ∃a cap,v=.slice a xs.length cap∧xs.length≤cap∧xs.length≤9223372036854775807∧(a=none→cap=0)∧
  (0<xs.length→∃b off,a=some ⟨b,off,none⟩∧S b∧∀k x,xs[k]? =some x→∃u,w.cell? ⟨b,off+k,none⟩=some u∧R S w u x)
theorem BY{α:Type}{R:CG α}(hR:M3 R):M3 (Sl R) where
 same:=by
  rintro S w w' u x hs ⟨a,cap,rfl,h1,h2,h3,h4⟩;refine⟨a,cap,rfl,h1,h2,h3,fun h0=>?_⟩;obtain⟨b,off,rfl,hb,hc⟩:=h4 h0;refine⟨b,off,rfl,hb,fun k x hk=>?_⟩;obtain⟨u,hu,hr⟩:=hc k x hk;exact⟨u,(World.cell?_of_block (w:=w) (hs b hb)).trans hu,hR.same hs hr⟩
 mono:=by
  rintro S S' w u x hs ⟨a,cap,rfl,h1,h2,h3,h4⟩;refine⟨a,cap,rfl,h1,h2,h3,fun h0=>?_⟩;obtain⟨b,off,rfl,hb,hc⟩:=h4 h0;refine⟨b,off,rfl,hs b hb,fun k x hk=>?_⟩;obtain⟨u,hu,hr⟩:=hc k x hk;exact⟨u,hu,hR.mono hs hr⟩
 inH:=by
  rintro S w u x ⟨a,cap,rfl,h1,h2,h3,h4⟩;refine⟨a,cap,rfl,h1,h2,h3,fun h0=>?_⟩;obtain⟨b,off,rfl,hb,hc⟩:=h4 h0;obtain⟨u0,eL,_⟩:=hc 0 x[0] (by simp[h0]);refine⟨b,off,rfl,⟨hb,block_lt_of_cell eL⟩,fun k x hk=>?_⟩;obtain⟨u,hu,hr⟩:=hc k x hk;exact⟨u,hu,hR.inH hr⟩
 one:=by
  rintro S w u x ⟨a,cap,rfl,_⟩;rfl
def A4{α:Type}(E:TypeId)(R:CG α):CG (List α):=fun S w v xs=>
 (v=.slice none 0 0∧xs=[])∨
 ∃g arr,v=.slice (some ⟨g,0,none⟩) xs.length arr.size∧S g∧w.heap[g]? =some (.cells arr E (0,0))∧xs.length≤arr.size∧arr.size≤maxLen∧xs.length≤17592186044416∧
  ∃T:Nat→Bk,(∀k b,T k b→S b∧b≠g)∧(∀j k b,T j b→T k b→j=k)∧∀k x,xs[k]? =some x→∃u,arr[k]? =some u∧R (T k) w u x
theorem A3{α:Type}{E:TypeId}{R:CG α}(hR:M3 R):M3 (A4 E R) where
 same:=by
  rintro S w w' u x hs h;rcases h with h|⟨g,arr,rfl,hg,hh,h1,h2,h3,T,dq,hT2,hT3⟩
  ·exact .inl h
  ·refine .inr ⟨g,arr,rfl,hg,(hs g hg).trans hh,h1,h2,h3,T,dq,hT2,fun k x hk=>?_⟩;obtain⟨u,hu,hr⟩:=hT3 k x hk;exact⟨u,hu,hR.same (fun b hb=>hs b (dq k b hb).1) hr⟩
 mono:=by
  rintro S S' w u x hs h;rcases h with h|⟨g,arr,rfl,hg,hh,h1,h2,h3,T,dq,hT2,hT3⟩
  ·exact .inl h
  ·exact .inr ⟨g,arr,rfl,hs g hg,hh,h1,h2,h3,T,fun k b hb=>⟨hs b (dq k b hb).1,(dq k b hb).2⟩,hT2,hT3⟩
 inH:=by
  rintro S w u x h;rcases h with h|⟨g,arr,rfl,hg,hh,h1,h2,h3,T,dq,hT2,hT3⟩
  ·exact .inl h
  ·refine .inr ⟨g,arr,rfl,⟨hg,lt_of_block hh⟩,hh,h1,h2,h3,fun k b=>T k b∧b<w.heap.size,fun k b hb=>⟨⟨(dq k b hb.1).1,hb.2⟩,(dq k b hb.1).2⟩,fun j k b hj hk=>hT2 j k b hj.1 hk.1,fun k x hk=>?_⟩;obtain⟨u,hu,hr⟩:=hT3 k x hk;exact⟨u,hu,hR.inH hr⟩
 one:=by
  rintro S w u x h;rcases h with⟨rfl,_⟩|⟨g,arr,rfl,_⟩<;>rfl
theorem A4.sl{α:Type}{E:TypeId}{R R':CG α}{S:Bk}{w:World}{v:Value}{xs:List α}(hr:∀S w u x,R S w u x→R' S w u x)(hR':M3 R')(h:A4 E R S w v xs):Sl R' S w v xs:=by
 rcases h with⟨rfl,rfl⟩|⟨g,arr,rfl,hg,hh,h1,h2,h3,T,dq,hT2,hT3⟩
 ·exact⟨none,0,rfl,by simp,by simp,fun _=>rfl,fun h=>by simp at h⟩
 ·refine⟨_,_,rfl,h1,Nat.le_trans h3 (by decide),fun h=>by simp at h,fun _=>⟨g,0,rfl,hg,fun k x hk=>?_⟩⟩;obtain⟨u,hu,hr1⟩:=hT3 k x hk;refine⟨u,?_,hR'.mono (fun b hb=>(dq k b hb).1) (hr _ _ _ _ hr1)⟩;rw[cell_of_row w g _ arr E (0,0) hh,Nat.zero_add];exact hu
structure Ar(S:Bk)(w w':World):Prop where
 os:w'.os=w.os
 tape:w'.tape=w.tape
 output:w'.output=w.output
 size:w.heap.size≤w'.heap.size
 block:∀b,b<w.heap.size→¬S b→w'.heap[b]? =w.heap[b]?
theorem Ar.refl(S:Bk)(w:World):Ar S w w:=⟨rfl,rfl,rfl,Nat.le_refl _,fun _ _ _=>rfl⟩
theorem Ar.mono{S S':Bk}{w w':World}(h:Ar S w w')(hs:∀b,S b→b<w.heap.size→S' b):Ar S' w w':=
 ⟨h.os,h.tape,h.output,h.size,fun b hb hn=>h.block b hb (fun hS=>hn (hs b hS hb))⟩
theorem Ar.trans{S S':Bk}{a b c:World}(h:Ar S a b)(k:Ar S' b c):Ar (fun x=>S x∨S' x) a c:=
 ⟨k.os.trans h.os,k.tape.trans h.tape,k.output.trans h.output,Nat.le_trans h.size k.size,fun i hi hn=>
   (k.block i (Nat.lt_of_lt_of_le hi h.size) (fun x=>hn (.inr x))).trans (h.block i hi (fun x=>hn (.inl x)))⟩
theorem Ar.trans'{S:Bk}{a b c:World}(h:Ar S a b)(k:Ar (fun x=>S x∨a.heap.size≤x) b c):Ar S a c:=
 ⟨k.os.trans h.os,k.tape.trans h.tape,k.output.trans h.output,Nat.le_trans h.size k.size,fun i hi hn=>
   (k.block i (Nat.lt_of_lt_of_le hi h.size) (fun x=>x.elim hn (fun _=>by omega))).trans (h.block i hi hn)⟩
theorem Ar.below{S:Bk}{w w':World}(h:Ar S w w'){B:Nat}(hB:B≤w.heap.size)(hS:∀b,S b→B≤b):Below B w w':=
 ⟨h.os,h.tape,h.output,h.size,fun k hk=>h.block k (by omega) (fun x=>by have:=hS k x;omega)⟩
theorem Ar.of_below{B:Nat}{w w':World}(h:Below B w w'):Ar (fun b=>B≤b) w w':=
 ⟨h.os,h.tape,h.output,h.size,fun k _ hn=>h.block k (by omega)⟩
theorem Ar.of_pure{w w':World}(h:Below w.heap.size w w')(S:Bk):Ar S w w':=
 ⟨h.os,h.tape,h.output,h.size,fun k hk _=>h.block k hk⟩
theorem Ar.pure{w w':World}(h:Ar (fun _=>False) w w'):Below w.heap.size w w':=h.below (Nat.le_refl _) (fun _ x=>x.elim)
theorem Ar.alloc{S:Bk}{a w:World}(h:Ar S a w)(o:Obj):Ar S a (w.alloc o):=
 ⟨h.os,h.tape,h.output,by have:=h.size;simp;omega,fun b hb hn=>(Below.heap_alloc w o b (by have:=h.size;omega)).trans (h.block b hb hn)⟩
theorem Ar.drew{S:Bk}{a w:World}(h:Ar S a w):Ar S a w.drew:=⟨h.os,h.tape,h.output,h.size,h.block⟩
theorem Ar.drewN{S:Bk}{a w:World}(h:Ar S a w)(n:Nat):Ar S a (w.drewN n):=⟨h.os,h.tape,h.output,h.size,h.block⟩
theorem Ar.setCell{S:Bk}{a w:World}(h:Ar S a w){p:Addr}(hp:S p.block∨a.heap.size≤p.block)(u:Value):Ar S a (w.setCell p u):=
 ⟨h.os,h.tape,h.output,by simpa[World.setCell] using h.size,fun b hb hn=>(Below.heap_setCell w p u b (fun e=>by subst e;exact hp.elim hn (fun _=>by omega))).trans (h.block b hb hn)⟩
theorem Ar.same{S T:Bk}{w w':World}(h:Ar S w w')(hd:∀b,T b→¬S b)(hT:∀b,T b→b<w.heap.size):IR T w w':=
 fun b hb=>h.block b (hT b hb) (hd b hb)
theorem Ar.cell{S:Bk}{w w':World}(h:Ar S w w'){p:Addr}(hp:p.block<w.heap.size)(hn:¬S p.block):w'.cell? p=w.cell? p:=World.cell?_of_block (w:=w) (h.block p.block hp hn)
theorem Ar.frozen{S:Bk}{w w':World}(h:Ar S w w'){p:Addr}(hp:p.block<w.heap.size)(hn:¬S p.block):w'.frozen? p=w.frozen? p:=World.frozen?_of_block (w:=w) (h.block p.block hp hn)
theorem A5{B:Nat}{S:Bk}{w w':World}(h:Below B w w')(hS:∀b,S b→b<B):IR S w w':=fun b hb=>h.block b (hS b hb)
theorem A9(w:World)(a:Addr)(v:Value):(w.setCell a v).heap.size=w.heap.size:=by simp[World.setCell]
def Rd{α:Type}(R:CG α)(w:World)(v:Value)(x:α):Prop:=R (fun b=>b<w.heap.size) w v x
theorem M3.rd{α:Type}{R:CG α}(hR:M3 R){S:Bk}{w:World}{v:Value}{x:α}(h:R S w v x):Rd R w v x:=hR.mono (fun _ hb=>hb.2) (hR.inH h)
theorem Rd.keep{α:Type}{R:CG α}{w w':World}{v:Value}{x:α}(h:Rd R w v x)(hR:M3 R)(hb:Below w.heap.size w w'):Rd R w' v x:=
 hR.mono (fun _ kx=>Nat.lt_of_lt_of_le kx hb.size) (hR.same (A5 hb fun _ h=>h) h)
abbrev Ab:=Rd (Sl A7)
abbrev Ak:=Rd (Sl (Sl A7))
abbrev Gm:=Rd (Sl (Sl (Sl A7)))
abbrev AM:=Rd (Sl Gd)
theorem Ab.keep{w w':World}{v:Value}{x:List Int}(h:Ab w v x)(hb:Below w.heap.size w w'):Ab w' v x:=Rd.keep h (BY A2) hb
theorem Ak.keep{w w':World}{v:Value}{x:List (List Int)}(h:Ak w v x)(hb:Below w.heap.size w w'):Ak w' v x:=Rd.keep h (BY (BY A2)) hb
theorem Gm.keep{w w':World}{v:Value}{x:List (List (List Int))}(h:Gm w v x)(hb:Below w.heap.size w w'):Gm w' v x:=Rd.keep h (BY (BY (BY A2))) hb
theorem A4.ints{E:TypeId}{S:Bk}{w:World}{v:Value}{xs:List Int}(h:A4 E A7 S w v xs):Ab w v xs:=(BY A2).rd (h.sl (fun _ _ _ _ h=>h) A2)
theorem A4.grid{E E':TypeId}{S:Bk}{w:World}{v:Value}{xs:List (List Int)}(h:A4 E (A4 E' A7) S w v xs):Ak w v xs:=
 (BY (BY A2)).rd (h.sl (fun _ _ _ _ h=>h.sl (fun _ _ _ _ h=>h) A2) (BY A2))
theorem A4.grids{E E' E'':TypeId}{S:Bk}{w:World}{v:Value}{xs:List (List (List Int))}(h:A4 E (A4 E' (A4 E'' A7)) S w v xs):Gm w v xs:=
 (BY (BY (BY A2))).rd (h.sl (fun _ _ _ _ h=>h.sl (fun _ _ _ _ h=>h.sl (fun _ _ _ _ h=>h) A2) (BY A2)) (BY (BY A2)))
theorem A4.keep{α:Type}{E:TypeId}{R:CG α}(hR:M3 R){lo hi:Nat}{w w':World}{v:Value}{xs:List α}(h:A4 E R (Iv lo hi) w v xs)(hb:Below w.heap.size w w')(hh:hi≤w.heap.size):A4 E R (Iv lo hi) w' v xs:=
 (A3 hR).same (A5 hb fun _ hs=>Nat.lt_of_lt_of_le hs.2 hh) h
theorem Below.pureAlloc(w:World)(o:Obj):Below w.heap.size w (w.alloc o):=(Below.refl _ _).alloc (Nat.le_refl _) o
theorem _root_.Go.RowKit.Below.at{B:Nat}{w w':World}(h:Below B w w'):∀b o,b<B→w'.cell? ⟨b,o,none⟩=w.cell? ⟨b,o,none⟩:=fun b o hb=>h.cell (p:=⟨b,o,none⟩) hb
theorem _root_.Go.RowKit.Below.trans_pure{B:Nat}{a b c:World}(h:Below B a b)(k:Below b.heap.size b c)(hB:B≤a.heap.size):Below B a c:=h.trans (k.mono (Nat.le_trans hB h.size))
theorem Pm(w:World)(x:Value)(t:TypeId):∀j u,[x][j]? =some u→(w.alloc (.cells #[x] t)).cell? ((⟨w.heap.size,0,none⟩:Addr).add j)=some u:=by
 intro j u hj
 match j,hj with
 |0,hj=>simp at hj;subst hj;simp[Addr.add]
theorem LV{α:Type}{P:Program}{R:CG α}(hR:M3 R)(w0:World)(t ty E:TypeId)(i:TypeInfo)(z:Value)(bytes:Nat)(ht:P.underlying t=some (.slice E))(hi:P.info? E=some i)(hz:i.zero=some z)
  (af:i.size=1)(eM:i.bytes=bytes)(eZ:z.cells.size=1)(dP:bytes≤64)
  (S T S':Bk)(v u:Value)(xs:List α)(x:α)(aB:A4 E R S w0 v xs)(hu:R T w0 u x)(jD:∀b,S b→¬T b)(hS:∀b,S b→b<w0.heap.size)(hT:∀b,T b→b<w0.heap.size)
  (rq:∀b,S b→S' b)(dq:∀b,T b→S' b)(mH:∀b,w0.heap.size<b→S' b)(aP:xs.length<1099511627776):
  ∃v' w',(Builtin.append_ #[t,t] ty #[v,.slice (some ⟨w0.heap.size,0,none⟩) 1 1]).run P (w0.alloc (.cells #[u] E))=.ok v' w'∧
   A4 E R (fun b=>S' b∧b<w'.heap.size) w' v' (xs++[x])∧Ar (fun b=>v.ownBlock=some b) w0 w':=by
 have huo:=hR.one hu;have cT:∀j u',[u][j]? =some u'→(w0.alloc (.cells #[u] E)).cell? ((⟨w0.heap.size,0,none⟩:Addr).add j)=some u':=Pm _ _ _;have wI:∀u'∈[u],u'.oneCell'=true:=by intro u' hu';simp at hu';subst hu';exact huo
 rcases aB with⟨rfl,rfl⟩|⟨g,arr,rfl,hg,hh,h1,h2,h3,Tk,hT1',hT2,hT3⟩
 ·obtain⟨v',w',hrun,bY,bz,-⟩:=run_append_own (P:=P) (w0.alloc (.cells #[u] E)) (w0.heap.size+1) t ty E i z 1 bytes ht hi hz af eM eZ (by decide) (.slice none 0 0) 0 [] (World.ownsRow_nil _ _ _ _)
   ⟨w0.heap.size,0,none⟩ 1 1 [u] rfl cT wI (by simp[maxLen]) (by omega) (by simp)
  refine⟨v',w',hrun,?_,?_⟩
  ·rcases bY.2 with⟨_,h⟩|⟨g,cap,cur,rfl,jt,hhg,ji,e9,eK,htake⟩
   ·omega
   ·have gy:=lt_of_block hhg;refine .inr ⟨g,cur,by simp at eK;simp[eK],⟨mH g (by omega),gy⟩,hhg,by simp at eK;simp;omega,by simp at eK;omega,by simp,fun k b=>T b∧k=0,?_,?_,?_⟩
    ·intro k b hb;refine⟨⟨dq b hb.1,?_⟩,?_⟩
     ·have:=hT b hb.1;omega
     ·have:=hT b hb.1;omega
    ·intro j k b hj hk;rw[hj.2,hk.2]
    ·intro k y hk;have aN:k=0:=by
      have:=(List.getElem?_eq_some_iff.1 hk).1;simpa using this
     subst aN;simp at hk;subst hk;refine⟨u,?_,?_⟩
     ·have:cur.toList[0]? =some u:=by
       have h:=congrArg (fun l=>l[0]?) htake;simp at h;simpa[List.getElem?_take] using h
      simpa using this
     ·refine hR.mono (S:=T) (fun b hb=>⟨hb,rfl⟩) (hR.same (fun b hb=>?_) hu);rw[bz.block b (by have:=hT b hb;simp;omega) (by simp[Value.ownBlock])];exact Below.heap_alloc _ _ _ (hT b hb)
  ·refine⟨bz.os,bz.tape,bz.output,by have:=bz.size;simp at this;omega,fun b hb hn=>?_⟩;rw[bz.block b (by simp;omega) (by simp[Value.ownBlock])];exact Below.heap_alloc _ _ _ hb
 ·have dC:(w0.alloc (.cells #[u] E)).ownsRow 0 E 1 (.slice (some ⟨g,0,none⟩) xs.length arr.size) xs.length (arr.toList.take xs.length):=by
   refine⟨by simp;omega,.inr ⟨g,arr.size,arr,rfl,Nat.zero_le _,?_,h1,h2,by simp,by simp⟩⟩;rw[Below.heap_alloc _ _ _ (hS g hg)];exact hh
  have wJ:∀k y,xs[k]? =some y→∀w':World,(∀b,b<w0.heap.size→b≠g→w'.heap[b]? =w0.heap[b]?)→∃u',arr[k]? =some u'∧R (Tk k) w' u' y:=by
   intro k y hk w' hw';obtain⟨u',hu',jj⟩:=hT3 k y hk;exact⟨u',hu',hR.same (fun b hb=>hw' b (hS b (hT1' k b hb).1) (hT1' k b hb).2) jj⟩
  have wK:∀b,T b→b≠g:=fun b hb e=>jD g hg (e▸hb);by_cases hroom:xs.length+1≤arr.size
  ·have hr:=run_append_room (P:=P) (w0.alloc (.cells #[u] E)) t ty E i ht hi g xs.length arr.size arr (by rw[Below.heap_alloc _ _ _ (hS g hg)];exact hh) ⟨w0.heap.size,0,none⟩ 1 1 [u] (by simp[af]) cT wI hroom (by simp[af];omega);refine⟨_,_,hr,?_,?_⟩
   ·refine .inr ⟨g,_,?_,⟨rq g hg,?_⟩,setRow_heap _ g arr _ E _ (by rw[Below.heap_alloc _ _ _ (hS g hg)];exact hh),?_,?_,by simp;omega,fun k b=>if k=xs.length then T b else Tk k b∧k<xs.length,?_,?_,?_⟩
    ·simp[af];omega
    ·exact lt_of_block (setRow_heap _ g arr _ E _ (by rw[Below.heap_alloc _ _ _ (hS g hg)];exact hh))
    ·simp[af];omega
    ·simp[af];have:=h2;omega
    ·intro k b hb;have aI:w0.heap.size≤((w0.alloc (.cells #[u] E)).setRow g (arr.toList.take (xs.length*i.size)++[u]++arr.toList.drop (xs.length*i.size+[u].length)).toArray).heap.size:=by simp[World.setRow]
     split at hb
     ·exact⟨⟨dq b hb,by have:=hT b hb;omega⟩,wK b hb⟩
     ·exact⟨⟨rq b (hT1' k b hb.1).1,by have:=hS b (hT1' k b hb.1).1;omega⟩,(hT1' k b hb.1).2⟩
    ·intro j k b hj hk
     split at hj<;>split at hk
     ·omega
     ·exact absurd hj (jD b (hT1' k b hk.1).1)
     ·exact absurd hk (jD b (hT1' j b hj.1).1)
     ·exact hT2 j k b hj.1 hk.1
    ·intro k y hk;have dS:∀b,b<w0.heap.size→b≠g→((w0.alloc (.cells #[u] E)).setRow g (arr.toList.take (xs.length*i.size)++[u]++arr.toList.drop (xs.length*i.size+[u].length)).toArray).heap[b]? =w0.heap[b]? :=fun b hb aO=>by
      rw[setRow_other _ g b _ aO,Below.heap_alloc _ _ _ hb]
     by_cases ah:k<xs.length
     ·obtain⟨u',hu',jj⟩:=wJ k y (by rw[List.getElem?_append_left ah] at hk;exact hk) _ dS;refine⟨u',?_,?_⟩
      ·simp only[af,Nat.mul_one,List.getElem?_toArray];rw[List.append_assoc,List.getElem?_append_left (by simp;omega),List.getElem?_take,if_pos ah];simpa using hu'
      ·simpa[Nat.ne_of_lt ah,ah] using jj
     ·have kS:k=xs.length:=by
       have:=(List.getElem?_eq_some_iff.1 hk).1;simp at this;omega
      subst kS;simp at hk;subst hk;refine⟨u,?_,?_⟩
      ·simp only[af,Nat.mul_one,List.getElem?_toArray];rw[List.append_assoc,List.getElem?_append_right (by simp;omega)];simp[Nat.min_eq_left h1]
      ·simp only[if_true];exact hR.same (fun b hb=>dS b (hT b hb) (wK b hb)) hu
   ·refine⟨rfl,rfl,rfl,by simp[World.setRow],fun b hb hn=>?_⟩;rw[setRow_other _ g b _ (fun e=>hn (by simp[Value.ownBlock,e])),Below.heap_alloc _ _ _ hb]
  ·obtain⟨v',w',hrun,bY,bz⟩:=run_append_arg_grows (P:=P) (w0.alloc (.cells #[u] E)) t ty E i z 1 bytes ht hi hz af eM eZ (by decide) ⟨g,0,none⟩ xs.length arr.size (arr.toList.take xs.length) (by simp;omega)
    (fun j u' hj=>dC.cells (g:=g) rfl j u' hj) ⟨w0.heap.size,0,none⟩ 1 1 [u] rfl cT (by omega) (by simp[maxLen];omega) (by
      have:(xs.length+1)*bytes≤1099511627776*64:=Nat.mul_le_mul (by omega) dP;omega)
   refine⟨v',w',hrun,?_,?_⟩
   ·rcases bY.2 with⟨_,h⟩|⟨g',cap,cur,rfl,jt,hhg,ji,e9,eK,htake⟩
    ·omega
    ·have gy:=lt_of_block hhg;simp at jt eK;have dS:∀b,b<w0.heap.size→w'.heap[b]? =w0.heap[b]? :=fun b hb=>by
      rw[bz.block b (by simp;omega) (by simp),Below.heap_alloc _ _ _ hb]
     refine .inr ⟨g',cur,by simp[eK],⟨mH g' (by omega),gy⟩,hhg,by simp;omega,by omega,by simp;omega,fun k b=>if k=xs.length then T b else Tk k b∧k<xs.length,?_,?_,?_⟩
     ·intro k b hb
      split at hb
      ·have:=hT b hb;exact⟨⟨dq b hb,by omega⟩,by omega⟩
      ·have:=hS b (hT1' k b hb.1).1;exact⟨⟨rq b (hT1' k b hb.1).1,by omega⟩,by omega⟩
     ·intro j k b hj hk
      split at hj<;>split at hk
      ·omega
      ·exact absurd hj (jD b (hT1' k b hk.1).1)
      ·exact absurd hk (jD b (hT1' j b hj.1).1)
      ·exact hT2 j k b hj.1 hk.1
     ·intro k y hk;have eI:∀j,j<xs.length+1→cur[j]? =(arr.toList.take xs.length++[u])[j]? :=by
       intro j hj;rw[←htake,List.getElem?_take,if_pos (by omega)];simp
      by_cases ah:k<xs.length
      ·obtain⟨u',hu',jj⟩:=wJ k y (by rw[List.getElem?_append_left ah] at hk;exact hk) w' (fun b hb _=>dS b hb);refine⟨u',?_,?_⟩
       ·rw[eI k (by omega),List.getElem?_append_left (by simp;omega),List.getElem?_take,if_pos ah];simpa using hu'
       ·simpa[Nat.ne_of_lt ah,ah] using jj
      ·have kS:k=xs.length:=by
        have:=(List.getElem?_eq_some_iff.1 hk).1;simp at this;omega
       subst kS;simp at hk;subst hk;refine⟨u,?_,?_⟩
       ·rw[eI _ (by omega),List.getElem?_append_right (by simp;omega)];simp[Nat.min_eq_left h1]
       ·simp only[if_true];exact hR.same (fun b hb=>dS b (hT b hb)) hu
   ·refine⟨bz.os,bz.tape,bz.output,by have:=bz.size;simp at this;omega,fun b hb _=>?_⟩;rw[bz.block b (by simp;omega) (by simp)];exact Below.heap_alloc _ _ _ hb
theorem Gw{α:Type}{P:Program}{w0:World}{ei:Array Oper}{rest:List Oper}{o:Oper}{a:Act}{Q:Exit→Act→World→Prop}(ie:o.guard=none)(s xo:Operand)(t:TypeId)
  (ho:o.op=.call {callee:=.builtin .append,args:=#[s,xo],argTypes:=#[t,t]}){R:CG α}(hR:M3 R)
  (E:TypeId){z:Value}{bytes:Nat}(ht:P.underlying t=some (.slice E))(cW:(P.info? E).map (fun i=>(i.zero,i.size,i.bytes))=some (some z,1,bytes))(eZ:z.cells.size=1)(dP:bytes≤64)
  (S T S':Bk)(v u:Value)(xs:List α)(x:α)(hs:a.eval s=v)(hx:a.eval xo=.slice (some ⟨w0.heap.size,0,none⟩) 1 1)(aB:A4 E R S w0 v xs)(hu:R T w0 u x)(jD:∀b,S b→¬T b)(hS:∀b,S b→b<w0.heap.size)(hT:∀b,T b→b<w0.heap.size)
  (rq:∀b,S b→S' b)(dq:∀b,T b→S' b)(mH:∀b,w0.heap.size<b→S' b)(aP:xs.length<1099511627776)
  (h:∀v' w',A4 E R (fun b=>S' b∧b<w'.heap.size) w' v' (xs++[x])→Ar (fun b=>v.ownBlock=some b) w0 w'→wpList P ei Q rest (a.put o.dst v') w'):
  wpList P ei Q (o::rest) a (w0.alloc (.cells #[u] E)):=by
 obtain⟨i,hi,hz,af,eM⟩:=info_parts cW;refine wpList_plain ie fun K hK=>?_;obtain⟨v',w',hr,h2,h3⟩:=LV (P:=P) hR w0 t o.type E i z bytes ht hi hz af eM eZ dP S T S' v u xs x aB hu jD hS hT rq dq mH aP;unfold Oper.wp execOp;simp only[ho,resolve,invoke,builtin,Sem.run_bind,Sem.run_pure,Result.andThen_ok,List.map_toArray,List.map_cons,List.map_nil,hs,hx,hr];exact hK _ _ (h v' w' h2 h3)
theorem A4.ownBlock'{α:Type}{E:TypeId}{R:CG α}{S:Bk}{w:World}{v:Value}{xs:List α}(h:A4 E R S w v xs):∀b,v.ownBlock=some b→S b:=by
 rcases h with⟨rfl,rfl⟩|⟨g,arr,rfl,hg,_⟩
 ·intro b hb;simp[Value.ownBlock] at hb
 ·intro b hb;simp[Value.ownBlock] at hb;subst hb;exact hg
theorem Aa{α:Type}{P:Program}{w0:World}{ei:Array Oper}{rest:List Oper}{o:Oper}{a:Act}{Q:Exit→Act→World→Prop}(ie:o.guard=none)(s xo:Operand)(t:TypeId)
  (ho:o.op=.call {callee:=.builtin .append,args:=#[s,xo],argTypes:=#[t,t]}){R:CG α}(hR:M3 R)
  (E:TypeId){z:Value}{bytes:Nat}(ht:P.underlying t=some (.slice E))(cW:(P.info? E).map (fun i=>(i.zero,i.size,i.bytes))=some (some z,1,bytes))(eZ:z.cells.size=1)(dP:bytes≤64)
  (B M:Nat)(sj:B≤M)(hM:M≤w0.heap.size){v u:Value}{xs:List α}{x:α}(hs:a.eval s=v)(hx:a.eval xo=.slice (some ⟨w0.heap.size,0,none⟩) 1 1)(aB:A4 E R (Iv B M) w0 v xs)(hu:R (Iv M w0.heap.size) w0 u x)(aP:xs.length<1099511627776)
  (h:∀v' w',A4 E R (Iv B w'.heap.size) w' v' (xs++[x])→Below B w0 w'→Ar (fun b=>v.ownBlock=some b) w0 w'→wpList P ei Q rest (a.put o.dst v') w'):
  wpList P ei Q (o::rest) a (w0.alloc (.cells #[u] E)):=
 Gw ie s xo t ho hR E ht cW eZ dP (Iv B M) (Iv M w0.heap.size) (fun b=>B≤b) v u xs x hs hx aB hu (fun b h1 h2=>by have:=h1.2;have:=h2.1;omega) (fun b h1=>Nat.lt_of_lt_of_le h1.2 hM) (fun b h1=>h1.2)
  (fun b h1=>h1.1) (fun b h1=>Nat.le_trans sj h1.1) (fun b h1=>by omega) aP
  fun v' w' h1 h2=>h v' w' h1 (h2.below (Nat.le_trans sj hM) fun b hb=>(A4.ownBlock' aB b hb).1) h2
theorem A4.grow{α:Type}{E:TypeId}{R:CG α}(hR:M3 R){B M:Nat}{w w':World}{v:Value}{xs:List α}(h:A4 E R (Iv B M) w v xs)(hM:M≤w.heap.size)(hb:Below w.heap.size w w'):A4 E R (Iv B w'.heap.size) w' v xs:=
 (A3 hR).mono (fun _ hs=>⟨hs.1,by have:=hs.2;have:=hb.size;omega⟩) ((A3 hR).same (A5 hb fun _ hs=>Nat.lt_of_lt_of_le hs.2 hM) h)
theorem A4.ownBlock{α:Type}{E:TypeId}{R:CG α}{S:Bk}{w:World}{v:Value}{xs:List α}(h:A4 E R S w v xs):∀b,v.ownBlock=some b→S b:=by
 rcases h with⟨rfl,rfl⟩|⟨g,arr,rfl,hg,_⟩
 ·intro b hb;simp[Value.ownBlock] at hb
 ·intro b hb;simp[Value.ownBlock] at hb;subst hb;exact hg
theorem A4.nil{α:Type}(E:TypeId)(R:CG α)(S:Bk)(w:World):A4 E R S w (.slice none 0 0) []:=.inl ⟨rfl,rfl⟩
theorem A4.focus{α:Type}{E:TypeId}{R:CG α}(hR:M3 R){S:Bk}{w:World}{g n cap:Nat}{xs:List α}(h:A4 E R S w (.slice (some ⟨g,0,none⟩) n cap) xs){k:Nat}{x:α}(hk:xs[k]? =some x):
  S g∧n=xs.length∧n≤cap∧w.frozen? ⟨g,k,none⟩=false∧∃T u,w.cell? ⟨g,k,none⟩=some u∧R T w u x∧(∀b,T b→S b∧b≠g)∧
   (∀(u':Value)(x':α)(T' S':Bk),R T' w u' x'→(∀b,T' b→S' b∧b≠g)→(∀b,T' b→S b→T b)→(∀b,S b→S' b)→A4 E R S' (w.setCell ⟨g,k,none⟩ u') (.slice (some ⟨g,0,none⟩) n cap) (xs.set k x'))∧
   (∀(w':World)(x':α),(∀b,S b→¬T b→w'.heap[b]? =w.heap[b]?)→R T w' u x'→A4 E R S w' (.slice (some ⟨g,0,none⟩) n cap) (xs.set k x')):=by
 rcases h with⟨h,_⟩|⟨g',arr,he,hg,hh,h1,h2,h3,T,dq,hT2,hT3⟩
 ·simp at h
 ·simp only[Value.slice.injEq,Option.some.injEq,Addr.mk.injEq,and_true] at he;obtain⟨rfl,rfl,rfl⟩:=he;obtain⟨u,hu,hr⟩:=hT3 k x hk;have ah:=(List.getElem?_eq_some_iff.1 hk).1;refine⟨hg,rfl,h1,frozen_of_row w g k arr E hh,T k,u,?_,hr,dq k,?_,?_⟩
  ·rw[cell_of_row w g k arr E (0,0) hh];exact hu
  ·intro u' x' T' S' jj hT' hTT hSS;have wL:∀b,b≠g→(w.setCell ⟨g,k,none⟩ u').heap[b]? =w.heap[b]? :=fun b hb=>Below.heap_setCell w _ u' b hb;refine .inr ⟨g,arr.setIfInBounds k u',by simp,hSS g hg,heap_setCell_same w g k arr E u' hh,by simpa using h1,by simpa using h2,by simpa using h3,fun j b=>if j=k then T' b else T j b,?_,?_,?_⟩
   ·intro j b hb
    split at hb
    ·exact hT' b hb
    ·exact⟨hSS b (dq j b hb).1,(dq j b hb).2⟩
   ·intro i j b hi hj
    split at hi<;>split at hj
    ·omega
    ·have:=hT2 k j b (hTT b hi (dq j b hj).1) hj;omega
    ·have:=hT2 k i b (hTT b hj (dq i b hi).1) hi;omega
    ·exact hT2 i j b hi hj
   ·intro j y hj;by_cases kV:j=k
    ·subst kV;rw[List.getElem?_set_self ah] at hj;obtain rfl:=Option.some.inj hj;refine⟨u',by simp[Array.getElem?_setIfInBounds];omega,?_⟩;simp only[if_true];exact hR.same (fun b hb=>wL b (hT' b hb).2) jj
    ·rw[List.getElem?_set_ne (fun e=>kV e.symm)] at hj;obtain⟨uj,huj,hrj⟩:=hT3 j y hj;refine⟨uj,?_,?_⟩
     ·rw[Array.getElem?_setIfInBounds,if_neg (fun e=>kV e.symm)];exact huj
     ·simp only[kV,if_false];exact hR.same (fun b hb=>wL b (dq j b hb).2) hrj
  ·intro w' x' hs jj;have xE:w'.heap[g]? =some (.cells arr E (0,0)):=(hs g hg (fun hb=>(dq k g hb).2 rfl)).trans hh;refine .inr ⟨g,arr,by simp,hg,xE,by simpa using h1,by simpa using h2,by simpa using h3,T,dq,hT2,?_⟩;intro j y hj;by_cases kV:j=k
   ·subst kV;rw[List.getElem?_set_self ah] at hj;obtain rfl:=Option.some.inj hj;exact⟨u,hu,jj⟩
   ·rw[List.getElem?_set_ne (fun e=>kV e.symm)] at hj;obtain⟨uj,huj,hrj⟩:=hT3 j y hj;exact⟨uj,huj,hR.same (fun b hb=>hs b (dq j b hb).1 (fun kx=>kV (hT2 j k b hb kx))) hrj⟩
theorem A4.inv{α:Type}{E:TypeId}{R:CG α}{S:Bk}{w:World}{v:Value}{xs:List α}(h:A4 E R S w v xs):(v=.slice none 0 0∧xs=[])∨∃g cap,v=.slice (some ⟨g,0,none⟩) xs.length cap∧S g∧xs.length≤cap∧g<w.heap.size∧xs.length≤17592186044416:=by
 rcases h with h|⟨g,arr,rfl,hg,hh,h1,h2,h3,_⟩
 ·exact .inl h
 ·exact .inr ⟨g,_,rfl,hg,h1,lt_of_block hh,h3⟩
theorem A4.inv_ne{α:Type}{E:TypeId}{R:CG α}{S:Bk}{w:World}{v:Value}{xs:List α}(h:A4 E R S w v xs)(aO:0<xs.length):∃g cap,v=.slice (some ⟨g,0,none⟩) xs.length cap∧S g∧xs.length≤cap∧g<w.heap.size∧xs.length≤17592186044416:=by
 rcases h.inv with⟨_,rfl⟩|h
 ·simp at aO
 ·exact h
theorem A4.setInt{E:TypeId}{S:Bk}{w:World}{g n cap:Nat}{xs:List Int}(h:A4 E A7 S w (.slice (some ⟨g,0,none⟩) n cap) xs){k:Nat}(hk:k<xs.length){c:Int}(hc:BV c):A4 E A7 S (w.setCell ⟨g,k,none⟩ (.int .i64 c)) (.slice (some ⟨g,0,none⟩) n cap) (xs.set k c):=by
 obtain⟨_,_,_,_,T,u,_,_,_,h1,_⟩:=h.focus A2 (List.getElem?_eq_getElem hk);exact h1 (.int .i64 c) c (fun _=>False) S ⟨rfl,hc⟩ (fun _ x=>x.elim) (fun _ x=>x.elim) (fun _ x=>x)
theorem A4.ints_cell{E:TypeId}{S:Bk}{w:World}{g n cap:Nat}{xs:List Int}(h:A4 E A7 S w (.slice (some ⟨g,0,none⟩) n cap) xs){k:Nat}{x:Int}(hk:xs[k]? =some x):w.cell? ⟨g,k,none⟩=some (.int .i64 x)∧w.frozen? ⟨g,k,none⟩=false∧BV x:=by
 obtain⟨_,_,_,hf,T,u,hu,⟨rfl,hI⟩,_⟩:=h.focus A2 hk;exact⟨hu,hf,hI⟩
theorem A4.ints_at{E:TypeId}{S:Bk}{w:World}{g n cap:Nat}{xs:List Int}(h:A4 E A7 S w (.slice (some ⟨g,0,none⟩) n cap) xs){k:Nat}(hk:k<xs.length):∃y,w.cell? ⟨g,k,none⟩=some (.int .i64 y)∧w.frozen? ⟨g,k,none⟩=false:=by
 obtain⟨h1,h2,_⟩:=h.ints_cell (List.getElem?_eq_getElem hk);exact⟨_,h1,h2⟩
theorem Ez{α:Type}{P:Program}(w:World){ei:Array Oper}{rest:List Oper}{o:Oper}{a:Act}{Q:Exit→Act→World→Prop}
  (hg:o.guard=none)(l c:Operand)(t:TypeId)(hop:o.op=Op.makeSlice t l c)
  (E:TypeId){z:Value}{bytes:Nat}(ht:P.underlying t=some (.slice E))(cW:(P.info? E).map (fun i=>(i.zero,i.size,i.bytes))=some (some z,1,bytes))(eZ:z.cells=#[z])(dP:bytes≤64){R:CG α}(x:α)(hx:R (fun _=>False) w z x)(hR:M3 R)
  (n:Nat)(hl:a.eval l=.int .i64 (n:Int))(hc:a.eval c=.int .i64 (n:Int))(hn:n≤1099511627776)
  (hK:∀w',A4 E R (fun b=>b=w.heap.size) w' (.slice (some ⟨w.heap.size,0,none⟩) n n) (List.replicate n x)→Below w.heap.size w w'→w'.heap.size=w.heap.size+1→wpList P ei Q rest (a.put o.dst (.slice (some ⟨w.heap.size,0,none⟩) n n)) w'):
  wpList P ei Q (o::rest) a w:=by
 obtain⟨i,hi,hz,af,eM⟩:=info_parts cW;refine wpList_plain hg fun K hK'=>?_;have hr:=run_make (P:=P) w t E i z ht hi hz .i64 .i64 n n (by omega) (Int.le_refl _) (by
  subst eM;have h:i.bytes*n≤64*1099511627776:=Nat.mul_le_mul dP hn;have h':((i.bytes*n:Nat):Int)≤281474976710656:=by omega
  rwa[Int.natCast_mul] at h') (by omega)
 simp only[Int.toNat_natCast] at hr;unfold Oper.wp;simp[execOp,hop,hl,hc,hr,Result.andThen];refine hK' _ _ (hK _ ?_ (Below.pureAlloc w _) (by simp));refine .inr ⟨w.heap.size,madeCells z.cells (n*i.size),by simp[size_madeCells,af],rfl,?_,by simp[size_madeCells,af],by simp[size_madeCells,af,maxLen];omega,by simp;omega,fun _ _=>False,fun _ _ h=>h.elim,fun _ _ _ h=>h.elim,?_⟩
 ·exact heap_alloc_new w _
 ·intro k y hk;have p7:k<n:=by
   have:=(List.getElem?_eq_some_iff.1 hk).1;simpa using this
  have:y=x:=by
   rw[List.getElem?_replicate,if_pos p7] at hk;exact(Option.some.inj hk).symm
  subst this;refine⟨z,by simp[madeCells,af,eZ,p7,Nat.mod_one],hR.same (fun _ h=>h.elim) hx⟩
theorem Bq{α:Type}{R:CG α}(w:World)(E:TypeId)(B:Nat)(_hR:M3 R)(hB:B≤w.heap.size:=by first|exact Nat.le_refl _|omega):A4 E R (Iv B (w.alloc (.cells #[] E)).heap.size) (w.alloc (.cells #[] E)) (.slice (some ⟨w.heap.size,0,none⟩) 0 0) []:=
 .inr ⟨w.heap.size,#[],rfl,⟨hB,by simp⟩,heap_alloc_new w _,by simp,by simp[maxLen],by simp,fun _ _=>False,fun _ _ h=>h.elim,fun _ _ _ h=>h.elim,fun k x h=>by simp at h⟩
theorem A4.only{α:Type}{E:TypeId}{R:CG α}(hR:M3 R){S T:Bk}{w w':World}{v:Value}{xs:List α}(h:A4 E R S w v xs)(ho:Ar T w w')(hh:∀b,S b→b<w.heap.size)(hd:∀b,S b→¬T b):A4 E R S w' v xs:=
 (A3 hR).same (ho.same hd hh) h
theorem Rd.only{α:Type}{R:CG α}(hR:M3 R){B:Nat}{T:Bk}{w w':World}{v:Value}{x:α}(h:R (fun b=>b<B) w v x)(hB:B≤w.heap.size)(ho:Ar T w w')(hd:∀b,T b→B≤b):R (fun b=>b<B) w' v x:=
 hR.same (ho.same (fun b hb ht=>by have:=hd b ht;omega) (fun _ hb=>by omega)) h
theorem Rd.low{α:Type}{R:CG α}(hR:M3 R){B:Nat}{w:World}{v:Value}{x:α}(h:R (fun b=>b<B) w v x):Rd R w v x:=hR.rd h
theorem A4.shape{α:Type}{E:TypeId}{R:CG α}{S:Bk}{w:World}{v:Value}{xs:List α}(h:A4 E R S w v xs):∃a n c,v=.slice a n c:=by
 rcases h with⟨rfl,_⟩|⟨g,arr,rfl,_⟩<;>exact⟨_,_,_,rfl⟩
abbrev YN(w:World)(s:Nat)(a b c:Value):Prop:=w.cell? ⟨s,0,none⟩=some a∧w.cell? ⟨s,1,none⟩=some b∧w.cell? ⟨s,2,none⟩=some c∧s<w.heap.size
theorem YN.keep{w w':World}{s:Nat}{a b c:Value}(h:YN w s a b c)(hb:Below w.heap.size w w'):YN w' s a b c:=
 ⟨(hb.at s 0 h.2.2.2).trans h.1,(hb.at s 1 h.2.2.2).trans h.2.1,(hb.at s 2 h.2.2.2).trans h.2.2.1,Nat.lt_of_lt_of_le h.2.2.2 hb.size⟩
theorem YN.only{S:Bk}{w w':World}{s:Nat}{a b c:Value}(h:YN w s a b c)(hb:Ar S w w')(hn:¬S s):YN w' s a b c:=
 ⟨(hb.cell h.2.2.2 hn).trans h.1,(hb.cell h.2.2.2 hn).trans h.2.1,(hb.cell h.2.2.2 hn).trans h.2.2.1,Nat.lt_of_lt_of_le h.2.2.2 hb.size⟩
theorem YN.new(w:World)(a b c:Value)(t:TypeId):YN (w.alloc (.cells #[a,b,c] t)) w.heap.size a b c:=by
 have h:∀j,(w.alloc (.cells #[a,b,c] t)).cell? ⟨w.heap.size,j,none⟩=#[a,b,c][j]? :=fun j=>cell_of_row _ _ _ _ _ _ (heap_alloc_new w _);exact⟨h 0,h 1,h 2,by simp⟩
abbrev WQ(w:World)(s:Nat)(a b:Value):Prop:=w.cell? ⟨s,0,none⟩=some a∧w.cell? ⟨s,1,none⟩=some b∧s<w.heap.size
theorem WQ.keep{w w':World}{s:Nat}{a b:Value}(h:WQ w s a b)(hb:Below w.heap.size w w'):WQ w' s a b:=
 ⟨(hb.at s 0 h.2.2).trans h.1,(hb.at s 1 h.2.2).trans h.2.1,Nat.lt_of_lt_of_le h.2.2 hb.size⟩
theorem WQ.only{S:Bk}{w w':World}{s:Nat}{a b:Value}(h:WQ w s a b)(hb:Ar S w w')(hn:¬S s):WQ w' s a b:=
 ⟨(hb.cell h.2.2 hn).trans h.1,(hb.cell h.2.2 hn).trans h.2.1,Nat.lt_of_lt_of_le h.2.2 hb.size⟩
theorem WQ.new(w:World)(a b:Value)(t:TypeId):WQ (w.alloc (.cells #[a,b] t)) w.heap.size a b:=by
 have h:∀j,(w.alloc (.cells #[a,b] t)).cell? ⟨w.heap.size,j,none⟩=#[a,b][j]? :=fun j=>cell_of_row _ _ _ _ _ _ (heap_alloc_new w _);exact⟨h 0,h 1,by simp⟩
theorem A4.point{α:Type}{E:TypeId}{R:CG α}(hR:M3 R){p lo hi:Nat}{w:World}{v:Value}{xs:List α}(h:A4 E R (fun b=>b=p) w v xs)(h1:lo≤p)(h2:p<hi):A4 E R (Iv lo hi) w v xs:=
 (A3 hR).mono (fun b hb=>by
   have hb:b=p:=hb;subst hb;exact⟨h1,h2⟩) h
theorem Sl.at{α:Type}{R:CG α}{S:Bk}{w:World}{b o n c:Nat}{l:List α}(h:Sl R S w (.slice (some ⟨b,o,none⟩) n c) l){k:Nat}{x:α}(hk:l[k]? =some x):∃u,w.cell? ⟨b,o+k,none⟩=some u∧R S w u x:=by
 obtain⟨a',cap',he,-,-,-,bQ⟩:=h;have ah:=(List.getElem?_eq_some_iff.1 hk).1;obtain⟨b',off,rfl,-,ct⟩:=bQ (by omega);simp only[Value.slice.injEq,Option.some.injEq,Addr.mk.injEq,and_true] at he;obtain⟨⟨rfl,rfl⟩,-,-⟩:=he;exact ct k x hk
theorem Ab.at{w:World}{b o n c:Nat}{l:List Int}(h:Ab w (.slice (some ⟨b,o,none⟩) n c) l){k:Nat}{x:Int}(hk:l[k]? =some x):w.cell? ⟨b,o+k,none⟩=some (.int .i64 x):=by
 obtain⟨u,hu,rfl,-⟩:=Sl.at h hk;exact hu
theorem Ab.at0{w:World}{b n c:Nat}{l:List Int}(h:Ab w (.slice (some ⟨b,0,none⟩) n c) l){k:Nat}{x:Int}(hk:l[k]? =some x):w.cell? ⟨b,k,none⟩=some (.int .i64 x):=by
 have:=h.at hk;rwa[Nat.zero_add] at this
theorem Ak.at0{w:World}{b n c:Nat}{l:List (List Int)}(h:Ak w (.slice (some ⟨b,0,none⟩) n c) l){k:Nat}{x:List Int}(hk:l[k]? =some x):∃u,w.cell? ⟨b,k,none⟩=some u∧Ab w u x:=by
 obtain⟨u,hu,hr⟩:=Sl.at h hk;rw[Nat.zero_add] at hu;exact⟨u,hu,hr⟩
theorem Sl.len{α:Type}{R:CG α}{S:Bk}{w:World}{a:Option Addr}{n c:Nat}{l:List α}(h:Sl R S w (.slice a n c) l):n=l.length:=by
 obtain⟨a',cap',he,-⟩:=h;simp only[Value.slice.injEq] at he;exact he.2.1
theorem Ab.len{w:World}{a:Option Addr}{n c:Nat}{l:List Int}(h:Ab w (.slice a n c) l):n=l.length:=Sl.len h
theorem Ak.len{w:World}{a:Option Addr}{n c:Nat}{l:List (List Int)}(h:Ak w (.slice a n c) l):n=l.length:=Sl.len h
theorem Sl.inv_ne{α:Type}{R:CG α}{S:Bk}{w:World}{v:Value}{l:List α}(h:Sl R S w v l)(aO:0<l.length):∃b o c,v=.slice (some ⟨b,o,none⟩) l.length c∧b<w.heap.size∧l.length≤c:=by
 obtain⟨a',cap',rfl,h1,-,-,bQ⟩:=h;obtain⟨b',off,rfl,hb,ct⟩:=bQ aO;obtain⟨u,hu,-⟩:=ct 0 l[0] (by simp[aO]);exact⟨b',off,cap',rfl,block_lt_of_cell hu,h1⟩
theorem KP{E:TypeId}{w:World}{g n:Nat}{cur:Array Value}{S:Bk}{zs:List Int}(hg:w.heap[g]? =some (.cells cur E (0,0)))(hS:S g)(hn:zs.length=n)(ji:n≤cur.size)(e9:cur.size≤maxLen)(h44:n≤17592186044416)(ht:cur.toList.take n=zs.map (Value.int .i64))(hI:∀z∈zs,BV z):
  A4 E A7 S w (.slice (some ⟨g,0,none⟩) n cur.size) zs:=by
 subst hn;refine .inr ⟨g,cur,rfl,hS,hg,ji,e9,h44,fun _ _=>False,fun _ _ h=>h.elim,fun _ _ _ h=>h.elim,fun k x hk=>?_⟩;have ah:=(List.getElem?_eq_some_iff.1 hk).1;refine⟨.int .i64 x,?_,rfl,hI x (List.mem_of_getElem? hk)⟩;have h1:(cur.toList.take zs.length)[k]? =(zs.map (Value.int .i64))[k]? :=by rw[ht]
 rw[List.getElem?_take,if_pos ah,List.getElem?_map,hk] at h1;simpa using h1
theorem A4.row{E:TypeId}{S:Bk}{w:World}{v:Value}{xs:List Int}(h:A4 E A7 S w v xs):(v=.slice none 0 0∧xs=[])∨∃g arr,v=.slice (some ⟨g,0,none⟩) xs.length arr.size∧S g∧w.heap[g]? =some (.cells arr E (0,0))∧xs.length≤arr.size∧arr.size≤maxLen∧arr.toList.take xs.length=xs.map (Value.int .i64)∧∀x∈xs,BV x:=by
 rcases h with h|⟨g,arr,rfl,hg,hh,h1,h2,h3,T,dq,hT2,hT3⟩
 ·exact .inl h
 ·refine .inr ⟨g,arr,rfl,hg,hh,h1,h2,?_,fun x hx=>?_⟩
  ·apply List.ext_getElem?;intro k;rw[List.getElem?_take,List.getElem?_map];by_cases hk:k<xs.length
   ·rw[if_pos hk,List.getElem?_eq_getElem hk];obtain⟨u,hu,rfl,-⟩:=hT3 k _ (List.getElem?_eq_getElem hk);simpa using hu
   ·rw[if_neg hk,List.getElem?_eq_none (by omega)];rfl
  ·obtain⟨k,hk⟩:=List.getElem?_of_mem hx;obtain⟨u,-,-,hI⟩:=hT3 k x hk;exact hI
theorem Y3{P:Program}(w:World)(t ty E:TypeId)(i:TypeInfo)(z:Value)(ht:P.underlying t=some (.slice E))(hi:P.info? E=some i)(hz:i.zero=some z)
  (af:i.size=1)(eM:i.bytes=8)(eZ:z.cells.size=1)(S:Bk)(v:Value)(xs ys:List Int)(us:Value)(aB:A4 E A7 S w v xs)(kT:Ab w us ys)(aP:xs.length+ys.length≤1099511627776):
  ∃v' w',(Builtin.append_ #[t,t] ty #[v,us]).run P w=.ok v' w'∧A4 E A7 (fun b=>S b∨(w.heap.size≤b∧b<w'.heap.size)) w' v' (xs++ys)∧Ar (fun b=>v.ownBlock=some b) w w'∧(v'=.slice none 0 0↔v=.slice none 0 0∧ys=[]):=by
 obtain⟨a,cap,rfl,ak,cY,eN,hc⟩:=kT;have ui:∀y∈ys,BV y:=by
  intro y hy;obtain⟨k,hk⟩:=List.getElem?_of_mem hy;have ah:=(List.getElem?_eq_some_iff.1 hk).1;obtain⟨b,off,-,-,ct⟩:=hc (by omega);obtain⟨u,-,-,hI⟩:=ct k y hk;exact hI
 have rT:∀u∈ys.map (Value.int .i64),u.oneCell'=true:=ints_oneCell .i64 ys;cases a with
 |none=>
  have cF:=eN rfl;have jm:ys=[]:=List.eq_nil_of_length_eq_zero (by omega);subst jm;obtain rfl:cap=0:=cF;rcases aB.row with⟨rfl,rfl⟩|⟨g,arr,rfl,hg,hh,h1,h2,h3,h4⟩
  ·exact⟨_,_,run_append_owned_none (P:=P) w 0 t ty E i 1 ht hi (.slice none 0 0) 0 [] (World.ownsRow_nil _ _ _ _),A4.nil _ _ _ _,Ar.refl _ _,by simp⟩
  ·have dC:w.ownsRow 0 E 1 (.slice (some ⟨g,0,none⟩) xs.length arr.size) xs.length (xs.map (Value.int .i64)):=
    ⟨by simp,.inr ⟨g,arr.size,arr,rfl,Nat.zero_le _,hh,h1,h2,by simp,by simpa using h3⟩⟩
   exact⟨_,_,run_append_owned_none (P:=P) w 0 t ty E i 1 ht hi _ _ _ dC,by simpa using(A3 A2).mono (fun b hb=>.inl hb) aB,Ar.refl _ _,by simp⟩
 |some ad=>
  by_cases hy:ys=[]
  ·
   subst hy;have cT:∀j u,([]:List Value)[j]? =some u→w.cell? (ad.add j)=some u:=by intro j u h;simp at h
   rcases aB.row with⟨rfl,rfl⟩|⟨g,arr,rfl,hg,hh,h1,h2,h3,h4⟩
   ·obtain⟨v',w',hrun,ho,gd,dA⟩:=run_append_own (P:=P) w w.heap.size t ty E i z 1 8 ht hi hz af eM eZ (by decide) (.slice none 0 0) 0 [] (World.ownsRow_nil _ _ _ _) ad 0 cap [] rfl cT (by simp) (by simp[maxLen]) (by decide) (Nat.le_refl _);have hv':v'=.slice none 0 0:=dA.2 ⟨rfl,rfl⟩;subst hv';exact⟨_,w',by simpa using hrun,A4.nil _ _ _ _,⟨gd.os,gd.tape,gd.output,gd.size,fun b hb hn=>gd.block b hb (by simp[Value.ownBlock])⟩,by simp⟩
   ·have hr:=run_append_room (P:=P) w t ty E i ht hi g xs.length arr.size arr hh ad 0 cap [] (by simp) cT (by simp) (by omega) (by simp[af];omega);have e:(arr.toList.take (xs.length*i.size)++([]:List Value)++arr.toList.drop (xs.length*i.size+([]:List Value).length)).toArray=arr:=by simp
    rw[e,setRow_self w g arr E (0,0) hh] at hr;refine⟨_,_,hr,?_,Ar.refl _ _,by simp⟩;simpa using(A3 A2).mono (fun b hb=>.inl hb) aB
  ·have li:0<ys.length:=by cases ys with
    |nil=>exact absurd rfl hy
    |cons a l=>simp
   obtain⟨b,off,he,hb,ct⟩:=hc li;obtain rfl:=Option.some.inj he;have cT:∀j u,(ys.map (Value.int .i64))[j]? =some u→w.cell? ((⟨b,off,none⟩:Addr).add j)=some u:=by
    intro j u hj;rw[List.getElem?_map] at hj;cases hy':ys[j]? with
    |none=>rw[hy'] at hj;simp at hj
    |some y=>
     rw[hy'] at hj;simp at hj;obtain⟨u',hu',rfl,-⟩:=ct j y hy';rw[Addr.add_lit,hu',hj]
   rcases aB.row with⟨rfl,rfl⟩|⟨g,arr,rfl,hg,hh,h1,h2,h3,h4⟩
   ·obtain⟨v',w',hrun,ho,gd,dA⟩:=run_append_own (P:=P) w w.heap.size t ty E i z 1 8 ht hi hz af eM eZ (by decide) (.slice none 0 0) 0 [] (World.ownsRow_nil _ _ _ _) ⟨b,off,none⟩ ys.length cap (ys.map (Value.int .i64)) (by simp) cT rT (by simp[maxLen];simp at aP;omega) (by simp at aP⊢;omega) (Nat.le_refl _);refine⟨v',w',hrun,?_,⟨gd.os,gd.tape,gd.output,gd.size,fun b hb hn=>gd.block b hb (by simp[Value.ownBlock])⟩,by rw[dA];simp⟩;rcases ho.2 with⟨_,h⟩|⟨g,cap',cur,rfl,jt,hhg,ji,e9,eK,htake⟩
    ·omega
    ·obtain rfl:cap'=cur.size:=by omega
     have:=KP (zs:=ys) (n:=0+ys.length) (S:=fun b=>S b∨(w.heap.size≤b∧b<w'.heap.size)) hhg (.inr ⟨jt,lt_of_block hhg⟩) (by simp) ji e9 (by simp at aP⊢;omega) (by simpa using htake) ui;simpa using this
   ·by_cases hroom:xs.length+ys.length≤arr.size
    ·have hr:=run_append_room (P:=P) w t ty E i ht hi g xs.length arr.size arr hh ⟨b,off,none⟩ ys.length cap (ys.map (Value.int .i64)) (by simp[af]) cT rT hroom (by simp[af];omega);refine⟨_,_,hr,?_,⟨rfl,rfl,rfl,by simp[World.setRow],fun b hb hn=>setRow_other _ g b _ (fun e=>hn (by simp[Value.ownBlock,e]))⟩,by simp⟩;have uK:=setRow_heap w g arr (arr.toList.take (xs.length*i.size)++ys.map (Value.int .i64)++arr.toList.drop (xs.length*i.size+(ys.map (Value.int .i64)).length)).toArray E (0,0) hh;have aI:(arr.toList.take (xs.length*i.size)++ys.map (Value.int .i64)++arr.toList.drop (xs.length*i.size+(ys.map (Value.int .i64)).length)).toArray.size=arr.size:=by simp[af];omega
     have:=KP (zs:=xs++ys) (n:=xs.length+ys.length) (S:=fun b=>S b∨(w.heap.size≤b∧b<(w.setRow g (arr.toList.take (xs.length*i.size)++ys.map (Value.int .i64)++arr.toList.drop (xs.length*i.size+(ys.map (Value.int .i64)).length)).toArray).heap.size)) uK (.inl hg) (by simp) (by rw[aI];omega) (by rw[aI];exact h2) (by omega)
      (by
        rw[List.map_append,←h3];simp only[af,Nat.mul_one];rw[List.take_append_of_le_length (by simp;omega)];rw[List.take_of_length_le (by simp;omega)])
      (by intro z hz;rw[List.mem_append] at hz;exact hz.elim (h4 z) (ui z))
     rw[aI] at this;exact this
    ·have bP:∀j u,(xs.map (Value.int .i64))[j]? =some u→w.cell? ((⟨g,0,none⟩:Addr).add j)=some u:=by
      have dC:w.ownsRow 0 E 1 (.slice (some ⟨g,0,none⟩) xs.length arr.size) xs.length (xs.map (Value.int .i64)):=
       ⟨by simp,.inr ⟨g,arr.size,arr,rfl,Nat.zero_le _,hh,h1,h2,by simp,by simpa using h3⟩⟩
      exact dC.cells rfl
     obtain⟨v',w',hrun,ho,gd⟩:=run_append_arg_grows (P:=P) w t ty E i z 1 8 ht hi hz af eM eZ (by decide) ⟨g,0,none⟩ xs.length arr.size (xs.map (Value.int .i64)) (by simp) bP ⟨b,off,none⟩ ys.length cap (ys.map (Value.int .i64)) (by simp) cT (by omega) (by simp[maxLen];omega) (by omega);rcases ho.2 with⟨_,h⟩|⟨g',cap',cur,rfl,jt,hhg,ji,e9,eK,htake⟩
     ·omega
     ·refine⟨_,w',hrun,?_,⟨gd.os,gd.tape,gd.output,gd.size,fun b hb _=>gd.block b hb (by simp)⟩,by simp⟩;obtain rfl:cap'=cur.size:=by omega
      exact KP (zs:=xs++ys) (n:=xs.length+ys.length) hhg (.inr ⟨jt,lt_of_block hhg⟩) (by simp) ji e9 (by omega) (by rw[Nat.mul_one] at htake;rw[htake,List.map_append]) (by intro z hz;rw[List.mem_append] at hz;exact hz.elim (h4 z) (ui z))
theorem DJ{P:Program}{w:World}{ei:Array Oper}{rest:List Oper}{o:Oper}{a:Act}{Q:Exit→Act→World→Prop}(ie:o.guard=none)(s xo:Operand)(t:TypeId)
  (ho:o.op=.call {callee:=.builtin .append,args:=#[s,xo],argTypes:=#[t,t]})(E:TypeId){z:Value}(ht:P.underlying t=some (.slice E))(cW:(P.info? E).map (fun i=>(i.zero,i.size,i.bytes))=some (some z,1,8))(eZ:z.cells.size=1)
  (S:Bk){v us:Value}{xs ys:List Int}(hs:a.eval s=v)(hx:a.eval xo=us)(aB:A4 E A7 S w v xs)(kT:Ab w us ys)(aP:xs.length+ys.length≤1099511627776)
  (h:∀v' w',A4 E A7 (fun b=>S b∨(w.heap.size≤b∧b<w'.heap.size)) w' v' (xs++ys)→Ar (fun b=>v.ownBlock=some b) w w'→(v'=.slice none 0 0↔v=.slice none 0 0∧ys=[])→wpList P ei Q rest (a.put o.dst v') w'):
  wpList P ei Q (o::rest) a w:=by
 obtain⟨i,hi,hz,af,eM⟩:=info_parts cW;refine wpList_plain ie fun K hK=>?_;obtain⟨v',w',hr,h2,h3,h4⟩:=Y3 (P:=P) w t o.type E i z ht hi hz af eM eZ S v xs ys us aB kT aP;unfold Oper.wp execOp;simp only[ho,resolve,invoke,builtin,Sem.run_bind,Sem.run_pure,Result.andThen_ok,List.map_toArray,List.map_cons,List.map_nil,hs,hx,hr];exact hK _ _ (h v' w' h2 h3 h4)
theorem OU{α:Type}{P:Program}{R:CG α}(hR:M3 R)(w:World)(t ty E:TypeId)(i:TypeInfo)(z:Value)(bytes:Nat)(ht:P.underlying t=some (.slice E))(hi:P.info? E=some i)(hz:i.zero=some z)
  (af:i.size=1)(eM:i.bytes=bytes)(eZ:z.cells.size=1)(dP:bytes≤64)
  (S T:Bk)(v u:Value)(xs:List α)(x:α)(ad:Addr)(c:Nat)(bN:w.cell? ad=some u)(had:ad.add 0=ad)(aB:A4 E R S w v xs)(hu:R T w u x)(jD:∀b,S b→¬T b)(hS:∀b,S b→b<w.heap.size)(hT:∀b,T b→b<w.heap.size)
  (aP:xs.length<1099511627776):
  ∃v' w',(Builtin.append_ #[t,t] ty #[v,.slice (some ad) 1 c]).run P w=.ok v' w'∧
   A4 E R (fun b=>(S b∨T b∨w.heap.size≤b)∧b<w'.heap.size) w' v' (xs++[x])∧Ar (fun b=>v.ownBlock=some b) w w':=by
 have huo:=hR.one hu;have cT:∀j u',[u][j]? =some u'→w.cell? (ad.add j)=some u':=by
  intro j u' hj
  match j,hj with
  |0,hj=>simp at hj;subst hj;rw[had];exact bN
 have wI:∀u'∈[u],u'.oneCell'=true:=by intro u' hu';simp at hu';subst hu';exact huo
 rcases aB with⟨rfl,rfl⟩|⟨g,arr,rfl,hg,hh,h1,h2,h3,Tk,hT1',hT2,hT3⟩
 ·obtain⟨v',w',hrun,bY,bz,-⟩:=run_append_own (P:=P) w w.heap.size t ty E i z 1 bytes ht hi hz af eM eZ (by decide) (.slice none 0 0) 0 [] (World.ownsRow_nil _ _ _ _)
   ad 1 c [u] rfl cT wI (by simp[maxLen]) (by omega) (Nat.le_refl _)
  refine⟨v',w',hrun,?_,?_⟩
  ·rcases bY.2 with⟨_,h⟩|⟨g,cap,cur,rfl,jt,hhg,ji,e9,eK,htake⟩
   ·omega
   ·have gy:=lt_of_block hhg;refine .inr ⟨g,cur,by simp at eK;simp[eK],⟨.inr (.inr jt),gy⟩,hhg,by simp at eK;simp;omega,by simp at eK;omega,by simp,fun k b=>T b∧k=0,?_,?_,?_⟩
    ·intro k b hb;have:=hT b hb.1;exact⟨⟨.inr (.inl hb.1),by omega⟩,by omega⟩
    ·intro j k b hj hk;rw[hj.2,hk.2]
    ·intro k y hk;have aN:k=0:=by
      have:=(List.getElem?_eq_some_iff.1 hk).1;simpa using this
     subst aN;simp at hk;subst hk;refine⟨u,?_,?_⟩
     ·have:cur.toList[0]? =some u:=by
       have h:=congrArg (fun l=>l[0]?) htake;simp at h;simpa[List.getElem?_take] using h
      simpa using this
     ·refine hR.mono (S:=T) (fun b hb=>⟨hb,rfl⟩) (hR.same (fun b hb=>?_) hu);exact bz.block b (hT b hb) (by simp[Value.ownBlock])
  ·exact⟨bz.os,bz.tape,bz.output,bz.size,fun b hb hn=>bz.block b hb (by simp[Value.ownBlock])⟩
 ·have dC:w.ownsRow 0 E 1 (.slice (some ⟨g,0,none⟩) xs.length arr.size) xs.length (arr.toList.take xs.length):=
   ⟨by simp;omega,.inr ⟨g,arr.size,arr,rfl,Nat.zero_le _,hh,h1,h2,by simp,by simp⟩⟩
  have wJ:∀k y,xs[k]? =some y→∀w':World,(∀b,b<w.heap.size→b≠g→w'.heap[b]? =w.heap[b]?)→∃u',arr[k]? =some u'∧R (Tk k) w' u' y:=by
   intro k y hk w' hw';obtain⟨u',hu',jj⟩:=hT3 k y hk;exact⟨u',hu',hR.same (fun b hb=>hw' b (hS b (hT1' k b hb).1) (hT1' k b hb).2) jj⟩
  have wK:∀b,T b→b≠g:=fun b hb e=>jD g hg (e▸hb);by_cases hroom:xs.length+1≤arr.size
  ·have hr:=run_append_room (P:=P) w t ty E i ht hi g xs.length arr.size arr hh ad 1 c [u] (by simp[af]) cT wI hroom (by simp[af];omega);refine⟨_,_,hr,?_,?_⟩
   ·have aI:(w.setRow g (arr.toList.take (xs.length*i.size)++[u]++arr.toList.drop (xs.length*i.size+[u].length)).toArray).heap.size=w.heap.size:=by simp[World.setRow]
    refine .inr ⟨g,_,?_,⟨.inl hg,?_⟩,setRow_heap _ g arr _ E _ hh,?_,?_,by simp;omega,fun k b=>if k=xs.length then T b else Tk k b∧k<xs.length,?_,?_,?_⟩
    ·simp[af];omega
    ·exact lt_of_block (setRow_heap _ g arr _ E _ hh)
    ·simp[af];omega
    ·simp[af];have:=h2;omega
    ·intro k b hb
     split at hb
     ·exact⟨⟨.inr (.inl hb),by have:=hT b hb;omega⟩,wK b hb⟩
     ·exact⟨⟨.inl (hT1' k b hb.1).1,by have:=hS b (hT1' k b hb.1).1;omega⟩,(hT1' k b hb.1).2⟩
    ·intro j k b hj hk
     split at hj<;>split at hk
     ·omega
     ·exact absurd hj (jD b (hT1' k b hk.1).1)
     ·exact absurd hk (jD b (hT1' j b hj.1).1)
     ·exact hT2 j k b hj.1 hk.1
    ·intro k y hk;have dS:∀b,b<w.heap.size→b≠g→(w.setRow g (arr.toList.take (xs.length*i.size)++[u]++arr.toList.drop (xs.length*i.size+[u].length)).toArray).heap[b]? =w.heap[b]? :=fun b hb aO=>setRow_other _ g b _ aO;by_cases ah:k<xs.length
     ·obtain⟨u',hu',jj⟩:=wJ k y (by rw[List.getElem?_append_left ah] at hk;exact hk) _ dS;refine⟨u',?_,?_⟩
      ·simp only[af,Nat.mul_one,List.getElem?_toArray];rw[List.append_assoc,List.getElem?_append_left (by simp;omega),List.getElem?_take,if_pos ah];simpa using hu'
      ·simpa[Nat.ne_of_lt ah,ah] using jj
     ·have kS:k=xs.length:=by
       have:=(List.getElem?_eq_some_iff.1 hk).1;simp at this;omega
      subst kS;simp at hk;subst hk;refine⟨u,?_,?_⟩
      ·simp only[af,Nat.mul_one,List.getElem?_toArray];rw[List.append_assoc,List.getElem?_append_right (by simp;omega)];simp[Nat.min_eq_left h1]
      ·simp only[if_true];exact hR.same (fun b hb=>dS b (hT b hb) (wK b hb)) hu
   ·refine⟨rfl,rfl,rfl,by simp[World.setRow],fun b hb hn=>?_⟩;exact setRow_other _ g b _ (fun e=>hn (by simp[Value.ownBlock,e]))
  ·obtain⟨v',w',hrun,bY,bz⟩:=run_append_arg_grows (P:=P) w t ty E i z 1 bytes ht hi hz af eM eZ (by decide) ⟨g,0,none⟩ xs.length arr.size (arr.toList.take xs.length) (by simp;omega)
    (fun j u' hj=>dC.cells (g:=g) rfl j u' hj) ad 1 c [u] rfl cT (by omega) (by simp[maxLen];omega) (by
      have:(xs.length+1)*bytes≤1099511627776*64:=Nat.mul_le_mul (by omega) dP;omega)
   refine⟨v',w',hrun,?_,?_⟩
   ·rcases bY.2 with⟨_,h⟩|⟨g',cap,cur,rfl,jt,hhg,ji,e9,eK,htake⟩
    ·omega
    ·have gy:=lt_of_block hhg;simp at jt eK;have dS:∀b,b<w.heap.size→w'.heap[b]? =w.heap[b]? :=fun b hb=>bz.block b hb (by simp);refine .inr ⟨g',cur,by simp[eK],⟨.inr (.inr (by omega)),gy⟩,hhg,by simp;omega,by omega,by simp;omega,fun k b=>if k=xs.length then T b else Tk k b∧k<xs.length,?_,?_,?_⟩
     ·intro k b hb
      split at hb
      ·have:=hT b hb;exact⟨⟨.inr (.inl hb),by omega⟩,by omega⟩
      ·have:=hS b (hT1' k b hb.1).1;exact⟨⟨.inl (hT1' k b hb.1).1,by omega⟩,by omega⟩
     ·intro j k b hj hk
      split at hj<;>split at hk
      ·omega
      ·exact absurd hj (jD b (hT1' k b hk.1).1)
      ·exact absurd hk (jD b (hT1' j b hj.1).1)
      ·exact hT2 j k b hj.1 hk.1
     ·intro k y hk;have eI:∀j,j<xs.length+1→cur[j]? =(arr.toList.take xs.length++[u])[j]? :=by
       intro j hj;rw[←htake,List.getElem?_take,if_pos (by omega)];simp
      by_cases ah:k<xs.length
      ·obtain⟨u',hu',jj⟩:=wJ k y (by rw[List.getElem?_append_left ah] at hk;exact hk) w' (fun b hb _=>dS b hb);refine⟨u',?_,?_⟩
       ·rw[eI k (by omega),List.getElem?_append_left (by simp;omega),List.getElem?_take,if_pos ah];simpa using hu'
       ·simpa[Nat.ne_of_lt ah,ah] using jj
      ·have kS:k=xs.length:=by
        have:=(List.getElem?_eq_some_iff.1 hk).1;simp at this;omega
       subst kS;simp at hk;subst hk;refine⟨u,?_,?_⟩
       ·rw[eI _ (by omega),List.getElem?_append_right (by simp;omega)];simp[Nat.min_eq_left h1]
       ·simp only[if_true];exact hR.same (fun b hb=>dS b (hT b hb)) hu
   ·exact⟨bz.os,bz.tape,bz.output,bz.size,fun b hb _=>bz.block b hb (by simp)⟩
theorem Iz{α:Type}{P:Program}{w:World}{ei:Array Oper}{o:Oper}{a:Act}{K:Act→World→Prop}{Q:Exit→Act→World→Prop}{Ep:Prop}(ie:o.guard=none)(s xo:Operand)(t:TypeId)
  (ho:o.op=.call {callee:=.builtin .append,args:=#[s,xo],argTypes:=#[t,t]}){R:CG α}(hR:M3 R)
  (E:TypeId){z:Value}{bytes:Nat}(ht:P.underlying t=some (.slice E))(cW:(P.info? E).map (fun i=>(i.zero,i.size,i.bytes))=some (some z,1,bytes))(eZ:z.cells.size=1)(dP:bytes≤64)
  (S T:Bk){v u:Value}{xs:List α}{x:α}{gb c:Nat}(hs:a.eval s=v)(hx:a.eval xo=.slice (some ⟨gb,0,none⟩) 1 c)(bN:w.cell? ⟨gb,0,none⟩=some u)(aB:A4 E R S w v xs)(hu:R T w u x)(jD:∀b,S b→¬T b)(hS:∀b,S b→b<w.heap.size)(hT:∀b,T b→b<w.heap.size)(aP:xs.length<1099511627776)
  (h:∀v' w',A4 E R (fun b=>(S b∨T b∨w.heap.size≤b)∧b<w'.heap.size) w' v' (xs++[x])→Ar (fun b=>v.ownBlock=some b) w w'→K (a.put o.dst v') w'):
  if Region.wanted o (yielded ei a.tmps)=true then Oper.wp P o a w K Q else Ep:=by
 have hw:Region.wanted o (yielded ei a.tmps)=true:=by simp[Region.wanted,ie]
 rw[if_pos hw];obtain⟨i,hi,hz,af,eM⟩:=info_parts cW;obtain⟨v',w',hr,h2,h3⟩:=OU (P:=P) hR w t o.type E i z bytes ht hi hz af eM eZ dP S T v u xs x ⟨gb,0,none⟩ c bN rfl aB hu jD hS hT aP;unfold Oper.wp execOp;simp only[ho,resolve,invoke,builtin,Sem.run_bind,Sem.run_pure,Result.andThen_ok,List.map_toArray,List.map_cons,List.map_nil,hs,hx,hr];exact h v' w' h2 h3
theorem F4{α:Type}{P:Program}{w:World}{ei:Array Oper}{rest:List Oper}{o:Oper}{a:Act}{Q:Exit→Act→World→Prop}(ie:o.guard=none)(s xo:Operand)(t:TypeId)
  (ho:o.op=.call {callee:=.builtin .append,args:=#[s,xo],argTypes:=#[t,t]}){R:CG α}(hR:M3 R)
  (E:TypeId){z:Value}{bytes:Nat}(ht:P.underlying t=some (.slice E))(cW:(P.info? E).map (fun i=>(i.zero,i.size,i.bytes))=some (some z,1,bytes))(eZ:z.cells.size=1)(dP:bytes≤64)
  (S T:Bk){v u:Value}{xs:List α}{x:α}{gb c:Nat}(hs:a.eval s=v)(hx:a.eval xo=.slice (some ⟨gb,0,none⟩) 1 c)(bN:w.cell? ⟨gb,0,none⟩=some u)(aB:A4 E R S w v xs)(hu:R T w u x)(jD:∀b,S b→¬T b)(hS:∀b,S b→b<w.heap.size)(hT:∀b,T b→b<w.heap.size)(aP:xs.length<1099511627776)
  (h:∀v' w',A4 E R (fun b=>(S b∨T b∨w.heap.size≤b)∧b<w'.heap.size) w' v' (xs++[x])→Ar (fun b=>v.ownBlock=some b) w w'→wpList P ei Q rest (a.put o.dst v') w'):
  wpList P ei Q (o::rest) a w:=by
 obtain⟨i,hi,hz,af,eM⟩:=info_parts cW;refine wpList_plain ie fun K hK=>?_;obtain⟨v',w',hr,h2,h3⟩:=OU (P:=P) hR w t o.type E i z bytes ht hi hz af eM eZ dP S T v u xs x ⟨gb,0,none⟩ c bN rfl aB hu jD hS hT aP;unfold Oper.wp execOp;simp only[ho,resolve,invoke,builtin,Sem.run_bind,Sem.run_pure,Result.andThen_ok,List.map_toArray,List.map_cons,List.map_nil,hs,hx,hr];exact hK _ _ (h v' w' h2 h3)
def Aw(w:World)(g:Nat)(cs:Array Value)(t:TypeId):Prop:=w.heap[g]? =some (.cells cs t (0,0))
theorem Aw.lt{w:World}{g:Nat}{cs:Array Value}{t:TypeId}(h:Aw w g cs t):g<w.heap.size:=lt_of_block h
theorem Aw.keep{w w':World}{g:Nat}{cs:Array Value}{t:TypeId}(h:Aw w g cs t)(hb:Below w.heap.size w w'):Aw w' g cs t:=(hb.block g h.lt).trans h
theorem Aw.only{S:Bk}{w w':World}{g:Nat}{cs:Array Value}{t:TypeId}(h:Aw w g cs t)(hb:Ar S w w')(hn:¬S g):Aw w' g cs t:=(hb.block g h.lt hn).trans h
theorem Aw.set{w:World}{g j:Nat}{cs:Array Value}{t:TypeId}(h:Aw w g cs t)(u:Value):Aw (w.setCell ⟨g,j,none⟩ u) g (cs.setIfInBounds j u) t:=heap_setCell_same w g j cs t u h
theorem Aw.set_ne{w:World}{g g' j:Nat}{cs:Array Value}{t:TypeId}(h:Aw w g cs t)(aO:g≠g')(u:Value):Aw (w.setCell ⟨g',j,none⟩ u) g cs t:=(Below.heap_setCell w _ _ g (by simpa using aO)).trans h
theorem Aw.cell{w:World}{g:Nat}{cs:Array Value}{t:TypeId}(h:Aw w g cs t)(j:Nat):w.cell? ⟨g,j,none⟩=cs[j]? :=cell_of_row w g j _ _ _ h
theorem Aw.frozen{w:World}{g:Nat}{cs:Array Value}{t:TypeId}(h:Aw w g cs t)(j:Nat):w.frozen? ⟨g,j,none⟩=false:=frozen_of_row w g j _ _ h
theorem Aw.new(w:World)(cs:Array Value)(t:TypeId):Aw (w.alloc (.cells cs t)) w.heap.size cs t:=heap_alloc_new w _
def PA:CG Value:=fun _ _ u x=>u=x∧u.oneCell'=true
theorem DV:M3 PA:=⟨fun _ h=>h,fun _ h=>h,fun h=>h,fun h=>h.2⟩
theorem A4.raw{α:Type}{R:CG α}{E:TypeId}{S:Bk}{w:World}{v:Value}{us:List Value}{xs:List α}(h:A4 E PA S w v us)(hl:us.length=xs.length)(hr:∀(k:Nat)(u:Value)(x:α),us[k]? =some u→xs[k]? =some x→R (fun b=>b<w.heap.size) w u x):Rd (Sl R) w v xs:=by
 rcases h with⟨rfl,rfl⟩|⟨g,arr,rfl,hg,hh,h1,h2,h3,T,dq,hT2,hT3⟩
 ·obtain rfl:xs=[]:=List.eq_nil_of_length_eq_zero hl.symm;exact⟨none,0,rfl,by simp,by simp,fun _=>rfl,fun h=>by simp at h⟩
 ·refine⟨_,_,by rw[hl],by omega,by rw[←hl];exact Nat.le_trans h3 (by decide),fun h=>by simp at h,fun _=>⟨g,0,rfl,lt_of_block hh,fun k x hk=>?_⟩⟩;have ah:=(List.getElem?_eq_some_iff.1 hk).1;have hku:=List.getElem?_eq_getElem (l:=us) (i:=k) (by omega);obtain⟨u,hu,rfl,-⟩:=hT3 k _ hku;refine⟨us[k],?_,hr k _ x hku hk⟩;rw[cell_of_row w g _ arr E (0,0) hh,Nat.zero_add];exact hu
def GV{α:Type}(R:CG α)(w:World)(us:List Value)(xs:List α):Prop:=us.length=xs.length∧∀(k:Nat)(u:Value)(x:α),us[k]? =some u→xs[k]? =some x→R (fun b=>b<w.heap.size) w u x
theorem GV.nil{α:Type}(R:CG α)(w:World):GV R w ([]:List Value) ([]:List α):=⟨rfl,fun k u x (h:([]:List Value)[k]? =some u)=>by simp at h⟩
theorem GV.keep{α:Type}{R:CG α}(hR:M3 R){w w':World}{us:List Value}{xs:List α}(h:GV R w us xs)(hb:Below w.heap.size w w'):GV R w' us xs:=
 ⟨h.1,fun k u x hu hx=>hR.mono (fun _ kx=>Nat.lt_of_lt_of_le kx hb.size) (hR.same (A5 hb fun _ h=>h) (h.2 k u x hu hx))⟩
theorem GV.snoc{α:Type}{R:CG α}{w:World}{us:List Value}{xs:List α}{u:Value}{x:α}(h:GV R w us xs)(hu:Rd R w u x):GV R w (us++[u]) (xs++[x]):=by
 refine⟨by rw[List.length_append,List.length_append,h.1];rfl,fun k v y hv hy=>?_⟩;by_cases hk:k<us.length
 ·rw[List.getElem?_append_left hk] at hv;rw[List.getElem?_append_left (by rw[←h.1];exact hk)] at hy;exact h.2 k v y hv hy
 ·have h1:=(List.getElem?_eq_some_iff.1 hv).1;rw[List.length_append,List.length_singleton] at h1;have kS:k=us.length:=by omega
  subst kS;rw[List.getElem?_append_right (Nat.le_refl _),Nat.sub_self] at hv;rw[List.getElem?_append_right (by rw[h.1];exact Nat.le_refl _),h.1,Nat.sub_self] at hy;simp at hv hy;subst hv;subst hy;exact hu
theorem GV.list{α:Type}{R:CG α}{E:TypeId}{S:Bk}{w:World}{v:Value}{us:List Value}{xs:List α}(h:GV R w us xs)(ho:A4 E PA S w v us):Rd (Sl R) w v xs:=ho.raw h.1 h.2

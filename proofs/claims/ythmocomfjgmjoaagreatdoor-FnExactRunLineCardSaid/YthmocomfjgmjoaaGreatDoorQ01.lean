/- Base. -/
import Derived.WalkKit
import Derived.ProofKit
import Derived.Lib.Hide
import Derived.Deep.DeepMust
import Derived.Deep.Draws
import Derived.Laws.AppendOwnNone
import Derived.Deep.RegionLaw
namespace Go.Proofs.YthmocomfjgmjoaaGreatDoor
open Go.RowKit
variable {B:Nat}{E E':TypeId}{P:Program}{Q:Exit→Act→World→Prop}{α:Type}{a:Act}{b:Value}{bytes c cap:Nat}{cs:Array Value}{fM:Array Oper}{g gb hi j k:Nat}{l:List α}{lo n:Nat}{p:Prop}{rest:List Oper}{s:Nat}{t:TypeId}{u:Value}{us:List Value}{v:Value}{w w' w0:World}{x:α}{xs:List α}{z:Value}
theorem Z(h:p):Hid p:=h
theorem _root_.Go.RowKit.Hid.o(h:Hid p):p:=h
theorem A2:∀(n:Nat),n≤n:=@Nat.le_refl
theorem A7:∀(n:Nat),0≤n:=@Nat.zero_le
theorem Aa:∀{n m k:Nat},n<m→m≤k→n<k:=@Nat.lt_of_lt_of_le
theorem Aj:∀{n m k:Nat},n≤m→m≤k→n≤k:=@Nat.le_trans
theorem A3:∀{α:Type _}{l:List α}{i:Nat}(h:i<l.length),l[i]? =some l[i]:=@List.getElem?_eq_getElem
theorem A4:∀{α:Type _}{l:List α}{i:Nat}{a:α},l[i]? =some a→a∈l:=@List.mem_of_getElem?
theorem A5:∀{α:Type _}{i:Nat}{a:α}{l:List α},l[i]? =some a↔∃h:i<l.length,l[i]=a:=@List.getElem?_eq_some_iff
theorem A9:∀{α:Type _}{i:Nat}{l:List α},l.length≤i→l.take i=l:=@List.take_of_length_le
theorem Am:∀{α:Type _}{l:List α}{i:Nat},l.length≤i→l[i]? =none:=@List.getElem?_eq_none
theorem Af:∀(a b:Bool),((a&&b)=true)=(a=true∧b=true):=@Bool.and_eq_true
theorem Ak:∀{α:Type _}{β:Type _}{f:α→β}{l:List α}{i:Nat},(l.map f)[i]? =l[i]?.map f:=@List.getElem?_map
theorem Ad:∀{α:Type _}{as bs:List α},(as++bs).length=as.length+bs.length:=@List.length_append
theorem An:∀{α:Type _}{a:α}{as:List α},(a::as).length=as.length+1:=@List.length_cons
theorem Ay:∀{α:Type _}{β:Type _}{as:List α}(f:α→β),(as.map f).length=as.length:=@List.length_map
theorem Aq:∀{α:Type _}{l₁ l₂:List α}{i:Nat},i<l₁.length→(l₁++l₂)[i]? =l₁[i]?:=@List.getElem?_append_left
theorem Ao:∀{α:Type _}{l:List α}{i:Nat},l.take (i+1)=l.take i++l[i]?.toList:=@List.take_add_one
theorem Ar:∀{α:Type _}{p:α→Bool}{l:List α},l.all p=true↔∀x∈l,p x=true:=@List.all_eq_true
theorem AL:∀{α:Type _}(y:α){a:α}{l:List α},a∈l→a∈y::l:=@List.mem_cons_of_mem
theorem Ah:∀{p:Prop}[Decidable p],(decide p=true)=p:=@decide_eq_true_eq
theorem Ai:∀{α:Type _}[BEq α][LawfulBEq α]{a b:α},(a==b)=false↔a≠b:=@beq_eq_false_iff_ne
theorem Av:∀{α:Type _}{xs:List α}{i:Nat},xs.toArray[i]? =xs[i]?:=@List.getElem?_toArray
theorem Aw:∀{α:Type _}{a:α}{l:List α},(a::l)[0]? =some a:=@List.getElem?_cons_zero
theorem AB:∀{α:Type _}{a:α}{i:Nat}{l:List α},(a::l)[i+1]? =l[i]?:=@List.getElem?_cons_succ
theorem AA:∀{m n:Nat},m<n→(List.range n)[m]? =some m:=@List.getElem?_range
theorem At:∀{α:Type _}{i:Nat}{l:List α},(l.take i).length=min i l.length:=@List.length_take
theorem E6:∀{α:Type _}(n:Nat)(l:List α),(l.take n).length≤n:=@List.length_take_le
theorem A6:∀(B:Nat)(w:World),Below B w w:=@Below.refl
theorem AE:∀{α:Type _}{β:Type _}{b:β}{f:α→β}{l:List α},b∈l.map f↔∃a∈l,f a=b:=@List.mem_map
theorem AG:∀{m n:Nat},m∈List.range n↔m<n:=@List.mem_range
theorem AF:∀(n:Nat),n+0=n:=@Nat.add_zero
abbrev U:=List Int
abbrev I:=List U
theorem Jz{f:Func}{R:Ending→World→Prop}(x:Array Value)(hr:(results f a.tmps).run P w=.ok (.tuple x) w)(h:R (.returned (.tuple x)) w)(hd:a.defers=[]:=by rfl):bodyPost P f R .ret a w:=⟨hd,_,hr,h⟩
theorem J(h:p:=by omega):p:=h
theorem Jj(h:p:=by simp):p:=h
theorem Jq(h:p:=by decide):p:=h
theorem Jv(h:p:=by simp[intOf];omega):p:=h
def Cc(n:Int):Prop:=-9223372036854775808≤n∧n≤9223372036854775807
theorem Cc.o{n:Int}(h:Cc n):-9223372036854775808≤n∧n≤9223372036854775807:=h
theorem Cc.small{n:Int}(h1:-4611686018427387904≤n)(h2:n≤4611686018427387904):Cc n:=⟨J,J⟩
abbrev Bk:=Nat→Prop
variable {S S' T:Bk}
def Iv(lo hi:Nat):Bk:=fun b=>lo≤b∧b<hi
def Jb(S:Bk)(w w':World):Prop:=∀b,S b→w'.heap[b]? =w.heap[b]?
abbrev CP(α:Type):=Bk→World→Value→α→Prop
variable {R:CP α}
structure LZ{α:Type}(R:CP α):Prop where
 same:∀{S w w' u x},Jb S w w'→R S w u x→R S w' u x
 mono:∀{S S' w u x},(∀b,S b→S' b)→R S w u x→R S' w u x
 inH:∀{S w u x},R S w u x→R (fun b=>S b∧b<w.heap.size) w u x
 one:∀{S w u x},R S w u x→u.oneCell'=true
def Ap:CP Int:=fun _ _ u n=>u=.int .i64 n∧Cc n
def Km:CP ByteArray:=fun _ _ u s=>u=.string s∧s.size≤9223372036854775807
def Q5:CP Bool:=fun _ _ u s=>u=.bool s
theorem A8:LZ Ap:=⟨fun _ h=>h,fun _ h=>h,fun h=>h,fun h=>by obtain⟨rfl,_⟩:=h;rfl⟩
theorem CK:LZ Km:=⟨fun _ h=>h,fun _ h=>h,fun h=>h,fun h=>by obtain⟨rfl,_⟩:=h;rfl⟩
theorem T8:LZ Q5:=⟨fun _ h=>h,fun _ h=>h,fun h=>h,fun h=>by obtain rfl:=h;rfl⟩
def Sl{α:Type}(R:CP α):CP (List α):=fun S w v xs=>
 ∃a cap,v=.slice a xs.length cap∧xs.length≤cap∧xs.length≤9223372036854775807∧(a=none→cap=0)∧
  (0<xs.length→∃b off,a=some ⟨b,off,none⟩∧S b∧∀k x,xs[k]? =some x→∃u,w.cell? ⟨b,off+k,none⟩=some u∧R S w u x)
theorem Cd(hR:LZ R):LZ (Sl R) where
 same:=by
  rintro S w w' u x hs ⟨a,cap,rfl,h1,h2,h3,h4⟩;refine⟨a,cap,rfl,h1,h2,h3,fun h0=>?_⟩;obtain⟨b,off,rfl,hb,hc⟩:=h4 h0;refine⟨b,off,rfl,hb,fun k x hk=>?_⟩;obtain⟨u,hu,hr⟩:=hc k x hk;exact⟨u,(World.cell?_of_block (w:=w) (hs b hb)).trans hu,hR.same hs hr⟩
 mono:=by
  rintro S S' w u x hs ⟨a,cap,rfl,h1,h2,h3,h4⟩;refine⟨a,cap,rfl,h1,h2,h3,fun h0=>?_⟩;obtain⟨b,off,rfl,hb,hc⟩:=h4 h0;refine⟨b,off,rfl,hs b hb,fun k x hk=>?_⟩;obtain⟨u,hu,hr⟩:=hc k x hk;exact⟨u,hu,hR.mono hs hr⟩
 inH:=by
  rintro S w u x ⟨a,cap,rfl,h1,h2,h3,h4⟩;refine⟨a,cap,rfl,h1,h2,h3,fun h0=>?_⟩;obtain⟨b,off,rfl,hb,hc⟩:=h4 h0;obtain⟨u0,eK,_⟩:=hc 0 x[0] (by simp[h0]);refine⟨b,off,rfl,⟨hb,block_lt_of_cell eK⟩,fun k x hk=>?_⟩;obtain⟨u,hu,hr⟩:=hc k x hk;exact⟨u,hu,hR.inH hr⟩
 one:=by
  rintro S w u x ⟨a,cap,rfl,_⟩;rfl
def Ag{α:Type}(E:TypeId)(R:CP α):CP (List α):=fun S w v xs=>
 (v=.slice none 0 0∧xs=[])∨
 ∃g arr,v=.slice (some ⟨g,0,none⟩) xs.length arr.size∧S g∧w.heap[g]? =some (.cells arr E (0,0))∧xs.length≤arr.size∧arr.size≤maxLen∧xs.length≤17592186044416∧
  ∃T:Nat→Bk,(∀k b,T k b→S b∧b≠g)∧(∀j k b,T j b→T k b→j=k)∧∀k x,xs[k]? =some x→∃u,arr[k]? =some u∧R (T k) w u x
theorem Ab(hR:LZ R):LZ (Ag E R) where
 same:=by
  rintro S w w' u x hs h;rcases h with h|⟨g,arr,rfl,hg,hh,h1,h2,h3,T,d5,hT2,hT3⟩
  ·exact .inl h
  ·refine .inr ⟨g,arr,rfl,hg,(hs g hg).trans hh,h1,h2,h3,T,d5,hT2,fun k x hk=>?_⟩;obtain⟨u,hu,hr⟩:=hT3 k x hk;exact⟨u,hu,hR.same (fun b hb=>hs b (d5 k b hb).1) hr⟩
 mono:=by
  rintro S S' w u x hs h;rcases h with h|⟨g,arr,rfl,hg,hh,h1,h2,h3,T,d5,hT2,hT3⟩
  ·exact .inl h
  ·exact .inr ⟨g,arr,rfl,hs g hg,hh,h1,h2,h3,T,fun k b hb=>⟨hs b (d5 k b hb).1,(d5 k b hb).2⟩,hT2,hT3⟩
 inH:=by
  rintro S w u x h;rcases h with h|⟨g,arr,rfl,hg,hh,h1,h2,h3,T,d5,hT2,hT3⟩
  ·exact .inl h
  ·refine .inr ⟨g,arr,rfl,⟨hg,lt_of_block hh⟩,hh,h1,h2,h3,fun k b=>T k b∧b<w.heap.size,fun k b hb=>⟨⟨(d5 k b hb.1).1,hb.2⟩,(d5 k b hb.1).2⟩,fun j k b hj hk=>hT2 j k b hj.1 hk.1,fun k x hk=>?_⟩;obtain⟨u,hu,hr⟩:=hT3 k x hk;exact⟨u,hu,hR.inH hr⟩
 one:=by
  rintro S w u x h;rcases h with⟨rfl,_⟩|⟨g,arr,rfl,_⟩<;>rfl
theorem Ag.sl{R':CP α}(hr:∀S w u x,R S w u x→R' S w u x)(hR':LZ R')(h:Ag E R S w v xs):Sl R' S w v xs:=by
 rcases h with⟨rfl,rfl⟩|⟨g,arr,rfl,hg,hh,h1,h2,h3,T,d5,hT2,hT3⟩
 ·exact⟨none,0,rfl,Jj,Jj,fun _=>rfl,fun h=>by simp at h⟩
 ·refine⟨_,_,rfl,h1,Aj h3 Jq,fun h=>by simp at h,fun _=>⟨g,0,rfl,hg,fun k x hk=>?_⟩⟩;obtain⟨u,hu,hr1⟩:=hT3 k x hk;refine⟨u,?_,hR'.mono (fun b hb=>(d5 k b hb).1) (hr _ _ _ _ hr1)⟩;rw[cell_of_row w g _ arr E (0,0) hh,Nat.zero_add];exact hu
structure AO(S:Bk)(w w':World):Prop where
 os:w'.os=w.os
 tape:w'.tape=w.tape
 output:w'.output=w.output
 size:w.heap.size≤w'.heap.size
 block:∀b,b<w.heap.size→¬S b→w'.heap[b]? =w.heap[b]?
theorem AO.refl(S:Bk)(w:World):AO S w w:=⟨rfl,rfl,rfl,A2 _,fun _ _ _=>rfl⟩
theorem AO.mono(h:AO S w w')(hs:∀b,S b→b<w.heap.size→S' b):AO S' w w':=
 ⟨h.os,h.tape,h.output,h.size,fun b hb hn=>h.block b hb (fun hS=>hn (hs b hS hb))⟩
theorem AO.trans{a b c:World}(h:AO S a b)(k:AO S' b c):AO (fun x=>S x∨S' x) a c:=
 ⟨k.os.trans h.os,k.tape.trans h.tape,k.output.trans h.output,Aj h.size k.size,fun i hi hn=>
   (k.block i (Aa hi h.size) (fun x=>hn (.inr x))).trans (h.block i hi (fun x=>hn (.inl x)))⟩
theorem AO.qai{a b c:World}(h:AO S a b)(k:AO (fun x=>S x∨a.heap.size≤x) b c):AO S a c:=
 ⟨k.os.trans h.os,k.tape.trans h.tape,k.output.trans h.output,Aj h.size k.size,fun i hi hn=>
   (k.block i (Aa hi h.size) (fun x=>x.elim hn (fun _=>by omega))).trans (h.block i hi hn)⟩
theorem AO.below(h:AO S w w')(hB:B≤w.heap.size)(hS:∀b,S b→B≤b):Below B w w':=
 ⟨h.os,h.tape,h.output,h.size,fun k hk=>h.block k J (fun x=>by have:=hS k x;omega)⟩
theorem AO.qaj(h:Below w.heap.size w w')(S:Bk):AO S w w':=
 ⟨h.os,h.tape,h.output,h.size,fun k hk _=>h.block k hk⟩
theorem AO.pure(h:AO (fun _=>False) w w'):Below w.heap.size w w':=h.below (A2 _) (fun _ x=>x.elim)
theorem AO.alloc{a:World}(h:AO S a w)(o:Obj):AO S a (w.alloc o):=
 ⟨h.os,h.tape,h.output,by have:=h.size;simp;omega,fun b hb hn=>(Below.heap_alloc w o b (by have:=h.size;omega)).trans (h.block b hb hn)⟩
theorem AO.drew{a:World}(h:AO S a w):AO S a w.drew:=⟨h.os,h.tape,h.output,h.size,h.block⟩
theorem AO.drewN{a:World}(h:AO S a w)(n:Nat):AO S a (w.drewN n):=⟨h.os,h.tape,h.output,h.size,h.block⟩
theorem AO.setCell{a:World}(h:AO S a w){p:Addr}(hp:S p.block∨a.heap.size≤p.block)(u:Value):AO S a (w.setCell p u):=
 ⟨h.os,h.tape,h.output,by simpa[World.setCell]using h.size,fun b hb hn=>(Below.heap_setCell w p u b (fun e=>by subst e;exact hp.elim hn (fun _=>by omega))).trans (h.block b hb hn)⟩
theorem AO.same(h:AO S w w')(hd:∀b,T b→¬S b)(hT:∀b,T b→b<w.heap.size):Jb T w w':=
 fun b hb=>h.block b (hT b hb) (hd b hb)
theorem AO.cell(h:AO S w w'){p:Addr}(hp:p.block<w.heap.size)(hn:¬S p.block):w'.cell? p=w.cell? p:=World.cell?_of_block (w:=w) (h.block p.block hp hn)
theorem AO.frozen(h:AO S w w'){p:Addr}(hp:p.block<w.heap.size)(hn:¬S p.block):w'.frozen? p=w.frozen? p:=World.frozen?_of_block (w:=w) (h.block p.block hp hn)
theorem Ac(h:Below B w w')(hS:∀b,S b→b<B):Jb S w w':=fun b hb=>h.block b (hS b hb)
theorem As(w:World)(a:Addr)(v:Value):(w.setCell a v).heap.size=w.heap.size:=by simp[World.setCell]
def Rd{α:Type}(R:CP α)(w:World)(v:Value)(x:α):Prop:=R (fun b=>b<w.heap.size) w v x
theorem LZ.rd(hR:LZ R)(h:R S w v x):Rd R w v x:=hR.mono (fun _ hb=>hb.2) (hR.inH h)
theorem Rd.keep(h:Rd R w v x)(hR:LZ R)(hb:Below w.heap.size w w'):Rd R w' v x:=
 hR.mono (fun _ kg=>Aa kg hb.size) (hR.same (Ac hb fun _ h=>h) h)
abbrev Au:=Rd (Sl Ap)
abbrev AI:=Rd (Sl (Sl Ap))
abbrev Gv:=Rd (Sl (Sl (Sl Ap)))
abbrev CX:=Rd (Sl Km)
theorem Au.keep{x:U}(h:Au w v x)(hb:Below w.heap.size w w'):Au w' v x:=Rd.keep h (Cd A8) hb
theorem AI.keep{x:I}(h:AI w v x)(hb:Below w.heap.size w w'):AI w' v x:=Rd.keep h (Cd (Cd A8)) hb
theorem Gv.keep{x:List I}(h:Gv w v x)(hb:Below w.heap.size w w'):Gv w' v x:=Rd.keep h (Cd (Cd (Cd A8))) hb
theorem Ag.ints{xs:U}(h:Ag E Ap S w v xs):Au w v xs:=(Cd A8).rd (h.sl (fun _ _ _ _ h=>h) A8)
theorem Ag.qag{xs:I}(h:Ag E (Ag E' Ap) S w v xs):AI w v xs:=
 (Cd (Cd A8)).rd (h.sl (fun _ _ _ _ h=>h.sl (fun _ _ _ _ h=>h) A8) (Cd A8))
theorem Ag.qan{E'':TypeId}{xs:List I}(h:Ag E (Ag E' (Ag E'' Ap)) S w v xs):Gv w v xs:=
 (Cd (Cd (Cd A8))).rd (h.sl (fun _ _ _ _ h=>h.sl (fun _ _ _ _ h=>h.sl (fun _ _ _ _ h=>h) A8) (Cd A8)) (Cd (Cd A8)))
theorem Ag.keep(hR:LZ R)(h:Ag E R (Iv lo hi) w v xs)(hb:Below w.heap.size w w')(hh:hi≤w.heap.size):Ag E R (Iv lo hi) w' v xs:=
 (Ab hR).same (Ac hb fun _ hs=>Aa hs.2 hh) h
theorem Below.qab(w:World)(o:Obj):Below w.heap.size w (w.alloc o):=(A6 _ _).alloc (A2 _) o
theorem _root_.Go.RowKit.Below.at(h:Below B w w'):∀b o,b<B→w'.cell? ⟨b,o,none⟩=w.cell? ⟨b,o,none⟩:=fun b o hb=>h.cell (p:=⟨b,o,none⟩) hb
theorem _root_.Go.RowKit.Below.qaa{a b c:World}(h:Below B a b)(k:Below b.heap.size b c)(hB:B≤a.heap.size):Below B a c:=h.trans (k.mono (Aj hB h.size))
theorem PD(w:World)(x:Value)(t:TypeId):∀j u,[x][j]? =some u→(w.alloc (.cells #[x] t)).cell? ((⟨w.heap.size,0,none⟩:Addr).add j)=some u:=by
 intro j u hj
 match j,hj with
 |0,hj=>simp at hj;subst hj;simp[Addr.add]
theorem Mx(hR:LZ R)(w0:World)(t ty E:TypeId)(i:TypeInfo)(z:Value)(bytes:Nat)(ht:P.underlying t=some (.slice E))(hi:P.info? E=some i)(hz:i.zero=some z)
  (aV:i.size=1)(du:i.bytes=bytes)(eM:z.cells.size=1)(dF:bytes≤64)
  (S T S':Bk)(v u:Value)(xs:List α)(x:α)(aB:Ag E R S w0 v xs)(hu:R T w0 u x)(ij:∀b,S b→¬T b)(hS:∀b,S b→b<w0.heap.size)(hT:∀b,T b→b<w0.heap.size)
  (rk:∀b,S b→S' b)(d5:∀b,T b→S' b)(lu:∀b,w0.heap.size<b→S' b)(aN:xs.length<1099511627776):
  ∃v' w',(Builtin.append_ #[t,t] ty #[v,.slice (some ⟨w0.heap.size,0,none⟩) 1 1]).run P (w0.alloc (.cells #[u] E))=.ok v' w'∧
   Ag E R (fun b=>S' b∧b<w'.heap.size) w' v' (xs++[x])∧AO (fun b=>v.ownBlock=some b) w0 w':=by
 have huo:=hR.one hu;have cD:∀j u',[u][j]? =some u'→(w0.alloc (.cells #[u] E)).cell? ((⟨w0.heap.size,0,none⟩:Addr).add j)=some u':=PD _ _ _;have wQ:∀u'∈[u],u'.oneCell'=true:=by intro u' hu';simp at hu';subst hu';exact huo
 rcases aB with⟨rfl,rfl⟩|⟨g,arr,rfl,hg,hh,h1,h2,h3,Tk,hT1',hT2,hT3⟩
 ·obtain⟨v',w',hrun,bI,bU,-⟩:=run_append_own (P:=P) (w0.alloc (.cells #[u] E)) (w0.heap.size+1) t ty E i z 1 bytes ht hi hz aV du eM Jq (.slice none 0 0) 0 [] (World.ownsRow_nil _ _ _ _)
   ⟨w0.heap.size,0,none⟩ 1 1 [u] rfl cD wQ (by simp[maxLen]) J Jj
  refine⟨v',w',hrun,?_,?_⟩
  ·rcases bI.2 with⟨_,h⟩|⟨g,cap,cur,rfl,lp,hhg,mj,d8,dp,htake⟩
   ·omega
   ·have iG:=lt_of_block hhg;refine .inr ⟨g,cur,by simp at dp;simp[dp],⟨lu g J,iG⟩,hhg,by simp at dp;simp;omega,by simp at dp;omega,Jj,fun k b=>T b∧k=0,?_,?_,?_⟩
    ·intro k b hb;refine⟨⟨d5 b hb.1,?_⟩,?_⟩
     ·have:=hT b hb.1;omega
     ·have:=hT b hb.1;omega
    ·intro j k b hj hk;rw[hj.2,hk.2]
    ·intro k y hk;have ap:k=0:=by
      have:=(A5.1 hk).1;simpa using this
     subst ap;simp at hk;subst hk;refine⟨u,?_,?_⟩
     ·have:cur.toList[0]? =some u:=by
       have h:=congrArg (fun l=>l[0]?) htake;simp at h;simpa[List.getElem?_take]using h
      simpa using this
     ·refine hR.mono (S:=T) (fun b hb=>⟨hb,rfl⟩) (hR.same (fun b hb=>?_) hu);rw[bU.block b (by have:=hT b hb;simp;omega) (by simp[Value.ownBlock])];exact Below.heap_alloc _ _ _ (hT b hb)
  ·refine⟨bU.os,bU.tape,bU.output,by have:=bU.size;simp at this;omega,fun b hb hn=>?_⟩;rw[bU.block b (by simp;omega) (by simp[Value.ownBlock])];exact Below.heap_alloc _ _ _ hb
 ·have cU:(w0.alloc (.cells #[u] E)).ownsRow 0 E 1 (.slice (some ⟨g,0,none⟩) xs.length arr.size) xs.length (arr.toList.take xs.length):=by
   refine⟨by simp;omega,.inr ⟨g,arr.size,arr,rfl,A7 _,?_,h1,h2,Jj,Jj⟩⟩;rw[Below.heap_alloc _ _ _ (hS g hg)];exact hh
  have wR:∀k y,xs[k]? =some y→∀w':World,(∀b,b<w0.heap.size→b≠g→w'.heap[b]? =w0.heap[b]?)→∃u',arr[k]? =some u'∧R (Tk k) w' u' y:=by
   intro k y hk w' hw';obtain⟨u',hu',j7⟩:=hT3 k y hk;exact⟨u',hu',hR.same (fun b hb=>hw' b (hS b (hT1' k b hb).1) (hT1' k b hb).2) j7⟩
  have wT:∀b,T b→b≠g:=fun b hb e=>ij g hg (e▸hb);by_cases hroom:xs.length+1≤arr.size
  ·have hr:=run_append_room (P:=P) (w0.alloc (.cells #[u] E)) t ty E i ht hi g xs.length arr.size arr (by rw[Below.heap_alloc _ _ _ (hS g hg)];exact hh) ⟨w0.heap.size,0,none⟩ 1 1 [u] (by simp[aV]) cD wQ hroom (by simp[aV];omega);refine⟨_,_,hr,?_,?_⟩
   ·refine .inr ⟨g,_,?_,⟨rk g hg,?_⟩,setRow_heap _ g arr _ E _ (by rw[Below.heap_alloc _ _ _ (hS g hg)];exact hh),?_,?_,by simp;omega,fun k b=>if k=xs.length then T b else Tk k b∧k<xs.length,?_,?_,?_⟩
    ·simp[aV];omega
    ·exact lt_of_block (setRow_heap _ g arr _ E _ (by rw[Below.heap_alloc _ _ _ (hS g hg)];exact hh))
    ·simp[aV];omega
    ·simp[aV];have:=h2;omega
    ·intro k b hb;have aM:w0.heap.size≤((w0.alloc (.cells #[u] E)).setRow g (arr.toList.take (xs.length*i.size)++[u]++arr.toList.drop (xs.length*i.size+[u].length)).toArray).heap.size:=by simp[World.setRow]
     split at hb
     ·exact⟨⟨d5 b hb,by have:=hT b hb;omega⟩,wT b hb⟩
     ·exact⟨⟨rk b (hT1' k b hb.1).1,by have:=hS b (hT1' k b hb.1).1;omega⟩,(hT1' k b hb.1).2⟩
    ·intro j k b hj hk
     split at hj<;>split at hk
     ·omega
     ·exact absurd hj (ij b (hT1' k b hk.1).1)
     ·exact absurd hk (ij b (hT1' j b hj.1).1)
     ·exact hT2 j k b hj.1 hk.1
    ·intro k y hk;have dJ:∀b,b<w0.heap.size→b≠g→((w0.alloc (.cells #[u] E)).setRow g (arr.toList.take (xs.length*i.size)++[u]++arr.toList.drop (xs.length*i.size+[u].length)).toArray).heap[b]? =w0.heap[b]? :=fun b hb aK=>by
      rw[setRow_other _ g b _ aK,Below.heap_alloc _ _ _ hb]
     by_cases au:k<xs.length
     ·obtain⟨u',hu',j7⟩:=wR k y (by rw[Aq au]at hk;exact hk) _ dJ;refine⟨u',?_,?_⟩
      ·simp only[aV,Nat.mul_one,Av];rw[List.append_assoc,Aq (by simp;omega),List.getElem?_take,if_pos au];simpa using hu'
      ·simpa[Nat.ne_of_lt au,au]using j7
     ·have kI:k=xs.length:=by
       have:=(A5.1 hk).1;simp at this;omega
      subst kI;simp at hk;subst hk;refine⟨u,?_,?_⟩
      ·simp only[aV,Nat.mul_one,Av];rw[List.append_assoc,List.getElem?_append_right (by simp;omega)];simp[Nat.min_eq_left h1]
      ·simp only[if_true];exact hR.same (fun b hb=>dJ b (hT b hb) (wT b hb)) hu
   ·refine⟨rfl,rfl,rfl,by simp[World.setRow],fun b hb hn=>?_⟩;rw[setRow_other _ g b _ (fun e=>hn (by simp[Value.ownBlock,e])),Below.heap_alloc _ _ _ hb]
  ·obtain⟨v',w',hrun,bI,bU⟩:=run_append_arg_grows (P:=P) (w0.alloc (.cells #[u] E)) t ty E i z 1 bytes ht hi hz aV du eM Jq ⟨g,0,none⟩ xs.length arr.size (arr.toList.take xs.length) (by simp;omega)
    (fun j u' hj=>cU.cells (g:=g) rfl j u' hj) ⟨w0.heap.size,0,none⟩ 1 1 [u] rfl cD J (by simp[maxLen];omega) (by
      have:(xs.length+1)*bytes≤1099511627776*64:=Nat.mul_le_mul J dF;omega)
   refine⟨v',w',hrun,?_,?_⟩
   ·rcases bI.2 with⟨_,h⟩|⟨g',cap,cur,rfl,lp,hhg,mj,d8,dp,htake⟩
    ·omega
    ·have iG:=lt_of_block hhg;simp at lp dp;have dJ:∀b,b<w0.heap.size→w'.heap[b]? =w0.heap[b]? :=fun b hb=>by
      rw[bU.block b (by simp;omega) Jj,Below.heap_alloc _ _ _ hb]
     refine .inr ⟨g',cur,by simp[dp],⟨lu g' J,iG⟩,hhg,by simp;omega,J,by simp;omega,fun k b=>if k=xs.length then T b else Tk k b∧k<xs.length,?_,?_,?_⟩
     ·intro k b hb
      split at hb
      ·have:=hT b hb;exact⟨⟨d5 b hb,J⟩,J⟩
      ·have:=hS b (hT1' k b hb.1).1;exact⟨⟨rk b (hT1' k b hb.1).1,J⟩,J⟩
     ·intro j k b hj hk
      split at hj<;>split at hk
      ·omega
      ·exact absurd hj (ij b (hT1' k b hk.1).1)
      ·exact absurd hk (ij b (hT1' j b hj.1).1)
      ·exact hT2 j k b hj.1 hk.1
     ·intro k y hk;have nL:∀j,j<xs.length+1→cur[j]? =(arr.toList.take xs.length++[u])[j]? :=by
       intro j hj;rw[←htake,List.getElem?_take,if_pos J];simp
      by_cases au:k<xs.length
      ·obtain⟨u',hu',j7⟩:=wR k y (by rw[Aq au]at hk;exact hk) w' (fun b hb _=>dJ b hb);refine⟨u',?_,?_⟩
       ·rw[nL k J,Aq (by simp;omega),List.getElem?_take,if_pos au];simpa using hu'
       ·simpa[Nat.ne_of_lt au,au]using j7
      ·have kI:k=xs.length:=by
        have:=(A5.1 hk).1;simp at this;omega
       subst kI;simp at hk;subst hk;refine⟨u,?_,?_⟩
       ·rw[nL _ J,List.getElem?_append_right (by simp;omega)];simp[Nat.min_eq_left h1]
       ·simp only[if_true];exact hR.same (fun b hb=>dJ b (hT b hb)) hu
   ·refine⟨bU.os,bU.tape,bU.output,by have:=bU.size;simp at this;omega,fun b hb _=>?_⟩;rw[bU.block b (by simp;omega) Jj];exact Below.heap_alloc _ _ _ hb
theorem GM{o:Oper}(iM:o.guard=none)(s xo:Operand)(t:TypeId)
  (ho:o.op=.call {callee:=.builtin .append,args:=#[s,xo],argTypes:=#[t,t]})(hR:LZ R)
  (E:TypeId)(ht:P.underlying t=some (.slice E))(cH:(P.info? E).map (fun i=>(i.zero,i.size,i.bytes))=some (some z,1,bytes))(eM:z.cells.size=1)(dF:bytes≤64)
  (S T S':Bk)(v u:Value)(xs:List α)(x:α)(hs:a.eval s=v)(hx:a.eval xo=.slice (some ⟨w0.heap.size,0,none⟩) 1 1)(aB:Ag E R S w0 v xs)(hu:R T w0 u x)(ij:∀b,S b→¬T b)(hS:∀b,S b→b<w0.heap.size)(hT:∀b,T b→b<w0.heap.size)
  (rk:∀b,S b→S' b)(d5:∀b,T b→S' b)(lu:∀b,w0.heap.size<b→S' b)(aN:xs.length<1099511627776)
  (h:∀v' w',Ag E R (fun b=>S' b∧b<w'.heap.size) w' v' (xs++[x])→AO (fun b=>v.ownBlock=some b) w0 w'→wpList P fM Q rest (a.put o.dst v') w'):
  wpList P fM Q (o::rest) a (w0.alloc (.cells #[u] E)):=by
 obtain⟨i,hi,hz,aV,du⟩:=info_parts cH;refine wpList_plain iM fun K hK=>?_;obtain⟨v',w',hr,h2,h3⟩:=Mx (P:=P) hR w0 t o.type E i z bytes ht hi hz aV du eM dF S T S' v u xs x aB hu ij hS hT rk d5 lu aN;unfold Oper.wp execOp;simp only[ho,resolve,invoke,builtin,Sem.run_bind,Sem.run_pure,Result.andThen_ok,List.map_toArray,List.map_cons,List.map_nil,hs,hx,hr];exact hK _ _ (h v' w' h2 h3)
theorem Ag.qae(h:Ag E R S w v xs):∀b,v.ownBlock=some b→S b:=by
 rcases h with⟨rfl,rfl⟩|⟨g,arr,rfl,hg,_⟩
 ·intro b hb;simp[Value.ownBlock]at hb
 ·intro b hb;simp[Value.ownBlock]at hb;subst hb;exact hg
theorem AH{o:Oper}(iM:o.guard=none)(s xo:Operand)(t:TypeId)
  (ho:o.op=.call {callee:=.builtin .append,args:=#[s,xo],argTypes:=#[t,t]})(hR:LZ R)
  (E:TypeId)(ht:P.underlying t=some (.slice E))(cH:(P.info? E).map (fun i=>(i.zero,i.size,i.bytes))=some (some z,1,bytes))(eM:z.cells.size=1)(dF:bytes≤64)
  (B M:Nat)(sj:B≤M)(hM:M≤w0.heap.size)(hs:a.eval s=v)(hx:a.eval xo=.slice (some ⟨w0.heap.size,0,none⟩) 1 1)(aB:Ag E R (Iv B M) w0 v xs)(hu:R (Iv M w0.heap.size) w0 u x)(aN:xs.length<1099511627776)
  (h:∀v' w',Ag E R (Iv B w'.heap.size) w' v' (xs++[x])→Below B w0 w'→AO (fun b=>v.ownBlock=some b) w0 w'→wpList P fM Q rest (a.put o.dst v') w'):
  wpList P fM Q (o::rest) a (w0.alloc (.cells #[u] E)):=
 GM iM s xo t ho hR E ht cH eM dF (Iv B M) (Iv M w0.heap.size) (fun b=>B≤b) v u xs x hs hx aB hu (fun b h1 h2=>by have:=h1.2;have:=h2.1;omega) (fun b h1=>Aa h1.2 hM) (fun b h1=>h1.2)
  (fun b h1=>h1.1) (fun b h1=>Aj sj h1.1) (fun b h1=>by omega) aN
  fun v' w' h1 h2=>h v' w' h1 (h2.below (Aj sj hM) fun b hb=>(Ag.qae aB b hb).1) h2
theorem Ag.grow(hR:LZ R){M:Nat}(h:Ag E R (Iv B M) w v xs)(hM:M≤w.heap.size)(hb:Below w.heap.size w w'):Ag E R (Iv B w'.heap.size) w' v xs:=
 (Ab hR).mono (fun _ hs=>⟨hs.1,by have:=hs.2;have:=hb.size;omega⟩) ((Ab hR).same (Ac hb fun _ hs=>Aa hs.2 hM) h)
theorem Ag.ownBlock(h:Ag E R S w v xs):∀b,v.ownBlock=some b→S b:=by
 rcases h with⟨rfl,rfl⟩|⟨g,arr,rfl,hg,_⟩
 ·intro b hb;simp[Value.ownBlock]at hb
 ·intro b hb;simp[Value.ownBlock]at hb;subst hb;exact hg
theorem Ag.nil(E:TypeId)(R:CP α)(S:Bk)(w:World):Ag E R S w (.slice none 0 0) []:=.inl ⟨rfl,rfl⟩
theorem Ag.qal(hR:LZ R)(h:Ag E R S w (.slice (some ⟨g,0,none⟩) n cap) xs)(hk:xs[k]? =some x):
  S g∧n=xs.length∧n≤cap∧w.frozen? ⟨g,k,none⟩=false∧∃T u,w.cell? ⟨g,k,none⟩=some u∧R T w u x∧(∀b,T b→S b∧b≠g)∧
   (∀(u':Value)(x':α)(T' S':Bk),R T' w u' x'→(∀b,T' b→S' b∧b≠g)→(∀b,T' b→S b→T b)→(∀b,S b→S' b)→Ag E R S' (w.setCell ⟨g,k,none⟩ u') (.slice (some ⟨g,0,none⟩) n cap) (xs.set k x'))∧
   (∀(w':World)(x':α),(∀b,S b→¬T b→w'.heap[b]? =w.heap[b]?)→R T w' u x'→Ag E R S w' (.slice (some ⟨g,0,none⟩) n cap) (xs.set k x')):=by
 rcases h with⟨h,_⟩|⟨g',arr,he,hg,hh,h1,h2,h3,T,d5,hT2,hT3⟩
 ·simp at h
 ·simp only[Value.slice.injEq,Option.some.injEq,Addr.mk.injEq,and_true]at he;obtain⟨rfl,rfl,rfl⟩:=he;obtain⟨u,hu,hr⟩:=hT3 k x hk;have au:=(A5.1 hk).1;refine⟨hg,rfl,h1,frozen_of_row w g k arr E hh,T k,u,?_,hr,d5 k,?_,?_⟩
  ·rw[cell_of_row w g k arr E (0,0) hh];exact hu
  ·intro u' x' T' S' j7 hT' hTT hSS;have wU:∀b,b≠g→(w.setCell ⟨g,k,none⟩ u').heap[b]? =w.heap[b]? :=fun b hb=>Below.heap_setCell w _ u' b hb;refine .inr ⟨g,arr.setIfInBounds k u',Jj,hSS g hg,heap_setCell_same w g k arr E u' hh,by simpa using h1,by simpa using h2,by simpa using h3,fun j b=>if j=k then T' b else T j b,?_,?_,?_⟩
   ·intro j b hb
    split at hb
    ·exact hT' b hb
    ·exact⟨hSS b (d5 j b hb).1,(d5 j b hb).2⟩
   ·intro i j b hi hj
    split at hi<;>split at hj
    ·omega
    ·have:=hT2 k j b (hTT b hi (d5 j b hj).1) hj;omega
    ·have:=hT2 k i b (hTT b hj (d5 i b hi).1) hi;omega
    ·exact hT2 i j b hi hj
   ·intro j y hj;by_cases kL:j=k
    ·subst kL;rw[List.getElem?_set_self au]at hj;obtain rfl:=Option.some.inj hj;refine⟨u',by simp[Array.getElem?_setIfInBounds];omega,?_⟩;simp only[if_true];exact hR.same (fun b hb=>wU b (hT' b hb).2) j7
    ·rw[List.getElem?_set_ne (fun e=>kL e.symm)]at hj;obtain⟨uj,huj,hrj⟩:=hT3 j y hj;refine⟨uj,?_,?_⟩
     ·rw[Array.getElem?_setIfInBounds,if_neg (fun e=>kL e.symm)];exact huj
     ·simp only[kL,if_false];exact hR.same (fun b hb=>wU b (d5 j b hb).2) hrj
  ·intro w' x' hs j7;have xK:w'.heap[g]? =some (.cells arr E (0,0)):=(hs g hg (fun hb=>(d5 k g hb).2 rfl)).trans hh;refine .inr ⟨g,arr,Jj,hg,xK,by simpa using h1,by simpa using h2,by simpa using h3,T,d5,hT2,?_⟩;intro j y hj;by_cases kL:j=k
   ·subst kL;rw[List.getElem?_set_self au]at hj;obtain rfl:=Option.some.inj hj;exact⟨u,hu,j7⟩
   ·rw[List.getElem?_set_ne (fun e=>kL e.symm)]at hj;obtain⟨uj,huj,hrj⟩:=hT3 j y hj;exact⟨uj,huj,hR.same (fun b hb=>hs b (d5 j b hb).1 (fun kg=>kL (hT2 j k b hb kg))) hrj⟩
theorem Ag.inv(h:Ag E R S w v xs):(v=.slice none 0 0∧xs=[])∨∃g cap,v=.slice (some ⟨g,0,none⟩) xs.length cap∧S g∧xs.length≤cap∧g<w.heap.size∧xs.length≤17592186044416:=by
 rcases h with h|⟨g,arr,rfl,hg,hh,h1,h2,h3,_⟩
 ·exact .inl h
 ·exact .inr ⟨g,_,rfl,hg,h1,lt_of_block hh,h3⟩
theorem Ag.qac(h:Ag E R S w v xs)(aK:0<xs.length):∃g cap,v=.slice (some ⟨g,0,none⟩) xs.length cap∧S g∧xs.length≤cap∧g<w.heap.size∧xs.length≤17592186044416:=by
 rcases h.inv with⟨_,rfl⟩|h
 ·simp at aK
 ·exact h
theorem Ag.qak{xs:U}(h:Ag E Ap S w (.slice (some ⟨g,0,none⟩) n cap) xs)(hk:k<xs.length){c:Int}(hc:Cc c):Ag E Ap S (w.setCell ⟨g,k,none⟩ (.int .i64 c)) (.slice (some ⟨g,0,none⟩) n cap) (xs.set k c):=by
 obtain⟨_,_,_,_,T,u,_,_,_,h1,_⟩:=h.qal A8 (A3 hk);exact h1 (.int .i64 c) c (fun _=>False) S ⟨rfl,hc⟩ (fun _ x=>x.elim) (fun _ x=>x.elim) (fun _ x=>x)
theorem Ag.qaf{xs:U}(h:Ag E Ap S w (.slice (some ⟨g,0,none⟩) n cap) xs){x:Int}(hk:xs[k]? =some x):w.cell? ⟨g,k,none⟩=some (.int .i64 x)∧w.frozen? ⟨g,k,none⟩=false∧Cc x:=by
 obtain⟨_,_,_,hf,T,u,hu,⟨rfl,hI⟩,_⟩:=h.qal A8 hk;exact⟨hu,hf,hI⟩
theorem Ag.ints_at{xs:U}(h:Ag E Ap S w (.slice (some ⟨g,0,none⟩) n cap) xs)(hk:k<xs.length):∃y,w.cell? ⟨g,k,none⟩=some (.int .i64 y)∧w.frozen? ⟨g,k,none⟩=false:=by
 obtain⟨h1,h2,_⟩:=h.qaf (A3 hk);exact⟨_,h1,h2⟩
theorem EJ(w:World){o:Oper}
  (hg:o.guard=none)(l c:Operand)(t:TypeId)(hop:o.op=Op.makeSlice t l c)
  (E:TypeId)(ht:P.underlying t=some (.slice E))(cH:(P.info? E).map (fun i=>(i.zero,i.size,i.bytes))=some (some z,1,bytes))(eM:z.cells=#[z])(dF:bytes≤64)(x:α)(hx:R (fun _=>False) w z x)(hR:LZ R)
  (n:Nat)(hl:a.eval l=.int .i64 (n:Int))(hc:a.eval c=.int .i64 (n:Int))(hn:n≤1099511627776)
  (hK:∀w',Ag E R (fun b=>b=w.heap.size) w' (.slice (some ⟨w.heap.size,0,none⟩) n n) (List.replicate n x)→Below w.heap.size w w'→w'.heap.size=w.heap.size+1→wpList P fM Q rest (a.put o.dst (.slice (some ⟨w.heap.size,0,none⟩) n n)) w'):
  wpList P fM Q (o::rest) a w:=by
 obtain⟨i,hi,hz,aV,du⟩:=info_parts cH;refine wpList_plain hg fun K hK'=>?_;have hr:=run_make (P:=P) w t E i z ht hi hz .i64 .i64 n n J (Int.le_refl _) (by
  subst du;have h:i.bytes*n≤64*1099511627776:=Nat.mul_le_mul dF hn;have h':((i.bytes*n:Nat):Int)≤281474976710656:=J;rwa[Int.natCast_mul]at h') J
 simp only[Int.toNat_natCast]at hr;unfold Oper.wp;simp[execOp,hop,hl,hc,hr,Result.andThen];refine hK' _ _ (hK _ ?_ (Below.qab w _) Jj);refine .inr ⟨w.heap.size,madeCells z.cells (n*i.size),by simp[size_madeCells,aV],rfl,?_,by simp[size_madeCells,aV],by simp[size_madeCells,aV,maxLen];omega,by simp;omega,fun _ _=>False,fun _ _ h=>h.elim,fun _ _ _ h=>h.elim,?_⟩
 ·exact heap_alloc_new w _
 ·intro k y hk;have pP:k<n:=by
   have:=(A5.1 hk).1;simpa using this
  have:y=x:=by
   rw[List.getElem?_replicate,if_pos pP]at hk;exact(Option.some.inj hk).symm
  subst this;refine⟨z,by simp[madeCells,aV,eM,pP,Nat.mod_one],hR.same (fun _ h=>h.elim) hx⟩
theorem BK(w:World)(E:TypeId)(B:Nat)(_hR:LZ R)(hB:B≤w.heap.size:=by first|exact A2 _|omega):Ag E R (Iv B (w.alloc (.cells #[] E)).heap.size) (w.alloc (.cells #[] E)) (.slice (some ⟨w.heap.size,0,none⟩) 0 0) []:=
 .inr ⟨w.heap.size,#[],rfl,⟨hB,Jj⟩,heap_alloc_new w _,Jj,by simp[maxLen],Jj,fun _ _=>False,fun _ _ h=>h.elim,fun _ _ _ h=>h.elim,fun k x h=>by simp at h⟩
theorem Ag.only(hR:LZ R)(h:Ag E R S w v xs)(ho:AO T w w')(hh:∀b,S b→b<w.heap.size)(hd:∀b,S b→¬T b):Ag E R S w' v xs:=
 (Ab hR).same (ho.same hd hh) h
theorem Rd.only(hR:LZ R)(h:R (fun b=>b<B) w v x)(hB:B≤w.heap.size)(ho:AO T w w')(hd:∀b,T b→B≤b):R (fun b=>b<B) w' v x:=
 hR.same (ho.same (fun b hb ht=>by have:=hd b ht;omega) (fun _ hb=>by omega)) h
theorem Rd.low(hR:LZ R)(h:R (fun b=>b<B) w v x):Rd R w v x:=hR.rd h
theorem Ag.shape(h:Ag E R S w v xs):∃a n c,v=.slice a n c:=by
 rcases h with⟨rfl,_⟩|⟨g,arr,rfl,_⟩<;>exact⟨_,_,_,rfl⟩
abbrev Xw(w:World)(s:Nat)(a b c:Value):Prop:=w.cell? ⟨s,0,none⟩=some a∧w.cell? ⟨s,1,none⟩=some b∧w.cell? ⟨s,2,none⟩=some c∧s<w.heap.size
theorem Xw.keep{a c:Value}(h:Xw w s a b c)(hb:Below w.heap.size w w'):Xw w' s a b c:=
 ⟨(hb.at s 0 h.2.2.2).trans h.1,(hb.at s 1 h.2.2.2).trans h.2.1,(hb.at s 2 h.2.2.2).trans h.2.2.1,Aa h.2.2.2 hb.size⟩
theorem Xw.only{a c:Value}(h:Xw w s a b c)(hb:AO S w w')(hn:¬S s):Xw w' s a b c:=
 ⟨(hb.cell h.2.2.2 hn).trans h.1,(hb.cell h.2.2.2 hn).trans h.2.1,(hb.cell h.2.2.2 hn).trans h.2.2.1,Aa h.2.2.2 hb.size⟩
theorem Xw.new(w:World)(a b c:Value)(t:TypeId):Xw (w.alloc (.cells #[a,b,c] t)) w.heap.size a b c:=by
 have h:∀j,(w.alloc (.cells #[a,b,c] t)).cell? ⟨w.heap.size,j,none⟩=#[a,b,c][j]? :=fun j=>cell_of_row _ _ _ _ _ _ (heap_alloc_new w _);exact⟨h 0,h 1,h 2,Jj⟩
abbrev WM(w:World)(s:Nat)(a b:Value):Prop:=w.cell? ⟨s,0,none⟩=some a∧w.cell? ⟨s,1,none⟩=some b∧s<w.heap.size
theorem WM.keep{a:Value}(h:WM w s a b)(hb:Below w.heap.size w w'):WM w' s a b:=
 ⟨(hb.at s 0 h.2.2).trans h.1,(hb.at s 1 h.2.2).trans h.2.1,Aa h.2.2 hb.size⟩
theorem WM.only{a:Value}(h:WM w s a b)(hb:AO S w w')(hn:¬S s):WM w' s a b:=
 ⟨(hb.cell h.2.2 hn).trans h.1,(hb.cell h.2.2 hn).trans h.2.1,Aa h.2.2 hb.size⟩
theorem WM.new(w:World)(a b:Value)(t:TypeId):WM (w.alloc (.cells #[a,b] t)) w.heap.size a b:=by
 have h:∀j,(w.alloc (.cells #[a,b] t)).cell? ⟨w.heap.size,j,none⟩=#[a,b][j]? :=fun j=>cell_of_row _ _ _ _ _ _ (heap_alloc_new w _);exact⟨h 0,h 1,Jj⟩
theorem Ag.qbg(hR:LZ R){p:Nat}(h:Ag E R (fun b=>b=p) w v xs)(h1:lo≤p)(h2:p<hi):Ag E R (Iv lo hi) w v xs:=
 (Ab hR).mono (fun b hb=>by
   have hb:b=p:=hb;subst hb;exact⟨h1,h2⟩) h
theorem Sl.at{b o:Nat}(h:Sl R S w (.slice (some ⟨b,o,none⟩) n c) l)(hk:l[k]? =some x):∃u,w.cell? ⟨b,o+k,none⟩=some u∧R S w u x:=by
 obtain⟨a',cap',he,-,-,-,bO⟩:=h;have au:=(A5.1 hk).1;obtain⟨b',off,rfl,-,cP⟩:=bO J;simp only[Value.slice.injEq,Option.some.injEq,Addr.mk.injEq,and_true]at he;obtain⟨⟨rfl,rfl⟩,-,-⟩:=he;exact cP k x hk
theorem Au.at{b o:Nat}{l:U}(h:Au w (.slice (some ⟨b,o,none⟩) n c) l){x:Int}(hk:l[k]? =some x):w.cell? ⟨b,o+k,none⟩=some (.int .i64 x):=by
 obtain⟨u,hu,rfl,-⟩:=Sl.at h hk;exact hu
theorem Au.at0{b:Nat}{l:U}(h:Au w (.slice (some ⟨b,0,none⟩) n c) l){x:Int}(hk:l[k]? =some x):w.cell? ⟨b,k,none⟩=some (.int .i64 x):=by
 have:=h.at hk;rwa[Nat.zero_add]at this
theorem AI.at0{b:Nat}{l:I}(h:AI w (.slice (some ⟨b,0,none⟩) n c) l){x:U}(hk:l[k]? =some x):∃u,w.cell? ⟨b,k,none⟩=some u∧Au w u x:=by
 obtain⟨u,hu,hr⟩:=Sl.at h hk;rw[Nat.zero_add]at hu;exact⟨u,hu,hr⟩
theorem Sl.len{a:Option Addr}(h:Sl R S w (.slice a n c) l):n=l.length:=by
 obtain⟨a',cap',he,-⟩:=h;simp only[Value.slice.injEq]at he;exact he.2.1
theorem Au.len{a:Option Addr}{l:U}(h:Au w (.slice a n c) l):n=l.length:=Sl.len h
theorem AI.len{a:Option Addr}{l:I}(h:AI w (.slice a n c) l):n=l.length:=Sl.len h
theorem Sl.qac(h:Sl R S w v l)(aK:0<l.length):∃b o c,v=.slice (some ⟨b,o,none⟩) l.length c∧b<w.heap.size∧l.length≤c:=by
 obtain⟨a',cap',rfl,h1,-,-,bO⟩:=h;obtain⟨b',off,rfl,hb,cP⟩:=bO aK;obtain⟨u,hu,-⟩:=cP 0 l[0] (by simp[aK]);exact⟨b',off,cap',rfl,block_lt_of_cell hu,h1⟩
theorem KH{cur:Array Value}{zs:U}(hg:w.heap[g]? =some (.cells cur E (0,0)))(hS:S g)(hn:zs.length=n)(mj:n≤cur.size)(d8:cur.size≤maxLen)(h44:n≤17592186044416)(ht:cur.toList.take n=zs.map (Value.int .i64))(hI:∀z∈zs,Cc z):
  Ag E Ap S w (.slice (some ⟨g,0,none⟩) n cur.size) zs:=by
 subst hn;refine .inr ⟨g,cur,rfl,hS,hg,mj,d8,h44,fun _ _=>False,fun _ _ h=>h.elim,fun _ _ _ h=>h.elim,fun k x hk=>?_⟩;have au:=(A5.1 hk).1;refine⟨.int .i64 x,?_,rfl,hI x (A4 hk)⟩;have h1:(cur.toList.take zs.length)[k]? =(zs.map (Value.int .i64))[k]? :=by rw[ht]
 rw[List.getElem?_take,if_pos au,Ak,hk]at h1;simpa using h1
theorem Ag.row{xs:U}(h:Ag E Ap S w v xs):(v=.slice none 0 0∧xs=[])∨∃g arr,v=.slice (some ⟨g,0,none⟩) xs.length arr.size∧S g∧w.heap[g]? =some (.cells arr E (0,0))∧xs.length≤arr.size∧arr.size≤maxLen∧arr.toList.take xs.length=xs.map (Value.int .i64)∧∀x∈xs,Cc x:=by
 rcases h with h|⟨g,arr,rfl,hg,hh,h1,h2,h3,T,d5,hT2,hT3⟩
 ·exact .inl h
 ·refine .inr ⟨g,arr,rfl,hg,hh,h1,h2,?_,fun x hx=>?_⟩
  ·apply List.ext_getElem?;intro k;rw[List.getElem?_take,Ak];by_cases hk:k<xs.length
   ·rw[if_pos hk,A3 hk];obtain⟨u,hu,rfl,-⟩:=hT3 k _ (A3 hk);simpa using hu
   ·rw[if_neg hk,Am J];rfl
  ·obtain⟨k,hk⟩:=List.getElem?_of_mem hx;obtain⟨u,-,-,hI⟩:=hT3 k x hk;exact hI
theorem Xz(w:World)(t ty E:TypeId)(i:TypeInfo)(z:Value)(ht:P.underlying t=some (.slice E))(hi:P.info? E=some i)(hz:i.zero=some z)
  (aV:i.size=1)(du:i.bytes=8)(eM:z.cells.size=1)(S:Bk)(v:Value)(xs ys:U)(us:Value)(aB:Ag E Ap S w v xs)(kJ:Au w us ys)(aN:xs.length+ys.length≤1099511627776):
  ∃v' w',(Builtin.append_ #[t,t] ty #[v,us]).run P w=.ok v' w'∧Ag E Ap (fun b=>S b∨(w.heap.size≤b∧b<w'.heap.size)) w' v' (xs++ys)∧AO (fun b=>v.ownBlock=some b) w w'∧(v'=.slice none 0 0↔v=.slice none 0 0∧ys=[]):=by
 obtain⟨a,cap,rfl,ae,cJ,f8,hc⟩:=kJ;have ul:∀y∈ys,Cc y:=by
  intro y hy;obtain⟨k,hk⟩:=List.getElem?_of_mem hy;have au:=(A5.1 hk).1;obtain⟨b,off,-,-,cP⟩:=hc J;obtain⟨u,-,-,hI⟩:=cP k y hk;exact hI
 have rH:∀u∈ys.map (Value.int .i64),u.oneCell'=true:=ints_oneCell .i64 ys;cases a with
 |none=>
  have bZ:=f8 rfl;have ja:ys=[]:=List.eq_nil_of_length_eq_zero J;subst ja;obtain rfl:cap=0:=bZ;rcases aB.row with⟨rfl,rfl⟩|⟨g,arr,rfl,hg,hh,h1,h2,h3,h4⟩
  ·exact⟨_,_,run_append_owned_none (P:=P) w 0 t ty E i 1 ht hi (.slice none 0 0) 0 [] (World.ownsRow_nil _ _ _ _),Ag.nil _ _ _ _,AO.refl _ _,Jj⟩
  ·have cU:w.ownsRow 0 E 1 (.slice (some ⟨g,0,none⟩) xs.length arr.size) xs.length (xs.map (Value.int .i64)):=
    ⟨Jj,.inr ⟨g,arr.size,arr,rfl,A7 _,hh,h1,h2,Jj,by simpa using h3⟩⟩
   exact⟨_,_,run_append_owned_none (P:=P) w 0 t ty E i 1 ht hi _ _ _ cU,by simpa using(Ab A8).mono (fun b hb=>.inl hb) aB,AO.refl _ _,Jj⟩
 |some ad=>
  by_cases hy:ys=[]
  ·
   subst hy;have cD:∀j u,([]:List Value)[j]? =some u→w.cell? (ad.add j)=some u:=by intro j u h;simp at h
   rcases aB.row with⟨rfl,rfl⟩|⟨g,arr,rfl,hg,hh,h1,h2,h3,h4⟩
   ·obtain⟨v',w',hrun,ho,gM,cR⟩:=run_append_own (P:=P) w w.heap.size t ty E i z 1 8 ht hi hz aV du eM Jq (.slice none 0 0) 0 [] (World.ownsRow_nil _ _ _ _) ad 0 cap [] rfl cD Jj (by simp[maxLen]) Jq (A2 _);have hv':v'=.slice none 0 0:=cR.2 ⟨rfl,rfl⟩;subst hv';exact⟨_,w',by simpa using hrun,Ag.nil _ _ _ _,⟨gM.os,gM.tape,gM.output,gM.size,fun b hb hn=>gM.block b hb (by simp[Value.ownBlock])⟩,Jj⟩
   ·have hr:=run_append_room (P:=P) w t ty E i ht hi g xs.length arr.size arr hh ad 0 cap [] Jj cD Jj J (by simp[aV];omega);have e:(arr.toList.take (xs.length*i.size)++([]:List Value)++arr.toList.drop (xs.length*i.size+([]:List Value).length)).toArray=arr:=Jj;rw[e,setRow_self w g arr E (0,0) hh]at hr;refine⟨_,_,hr,?_,AO.refl _ _,Jj⟩;simpa using(Ab A8).mono (fun b hb=>.inl hb) aB
  ·have lV:0<ys.length:=by cases ys with
    |nil=>exact absurd rfl hy
    |cons a l=>simp
   obtain⟨b,off,he,hb,cP⟩:=hc lV;obtain rfl:=Option.some.inj he;have cD:∀j u,(ys.map (Value.int .i64))[j]? =some u→w.cell? ((⟨b,off,none⟩:Addr).add j)=some u:=by
    intro j u hj;rw[Ak]at hj;cases hy':ys[j]? with
    |none=>rw[hy']at hj;simp at hj
    |some y=>
     rw[hy']at hj;simp at hj;obtain⟨u',hu',rfl,-⟩:=cP j y hy';rw[Addr.add_lit,hu',hj]
   rcases aB.row with⟨rfl,rfl⟩|⟨g,arr,rfl,hg,hh,h1,h2,h3,h4⟩
   ·obtain⟨v',w',hrun,ho,gM,cR⟩:=run_append_own (P:=P) w w.heap.size t ty E i z 1 8 ht hi hz aV du eM Jq (.slice none 0 0) 0 [] (World.ownsRow_nil _ _ _ _) ⟨b,off,none⟩ ys.length cap (ys.map (Value.int .i64)) Jj cD rH (by simp[maxLen];simp at aN;omega) (by simp at aN⊢;omega) (A2 _);refine⟨v',w',hrun,?_,⟨gM.os,gM.tape,gM.output,gM.size,fun b hb hn=>gM.block b hb (by simp[Value.ownBlock])⟩,by rw[cR];simp⟩;rcases ho.2 with⟨_,h⟩|⟨g,cap',cur,rfl,lp,hhg,mj,d8,dp,htake⟩
    ·omega
    ·obtain rfl:cap'=cur.size:=J;have:=KH (zs:=ys) (n:=0+ys.length) (S:=fun b=>S b∨(w.heap.size≤b∧b<w'.heap.size)) hhg (.inr ⟨lp,lt_of_block hhg⟩) Jj mj d8 (by simp at aN⊢;omega) (by simpa using htake) ul;simpa using this
   ·by_cases hroom:xs.length+ys.length≤arr.size
    ·have hr:=run_append_room (P:=P) w t ty E i ht hi g xs.length arr.size arr hh ⟨b,off,none⟩ ys.length cap (ys.map (Value.int .i64)) (by simp[aV]) cD rH hroom (by simp[aV];omega);refine⟨_,_,hr,?_,⟨rfl,rfl,rfl,by simp[World.setRow],fun b hb hn=>setRow_other _ g b _ (fun e=>hn (by simp[Value.ownBlock,e]))⟩,Jj⟩;have uM:=setRow_heap w g arr (arr.toList.take (xs.length*i.size)++ys.map (Value.int .i64)++arr.toList.drop (xs.length*i.size+(ys.map (Value.int .i64)).length)).toArray E (0,0) hh;have aM:(arr.toList.take (xs.length*i.size)++ys.map (Value.int .i64)++arr.toList.drop (xs.length*i.size+(ys.map (Value.int .i64)).length)).toArray.size=arr.size:=by simp[aV];omega
     have:=KH (zs:=xs++ys) (n:=xs.length+ys.length) (S:=fun b=>S b∨(w.heap.size≤b∧b<(w.setRow g (arr.toList.take (xs.length*i.size)++ys.map (Value.int .i64)++arr.toList.drop (xs.length*i.size+(ys.map (Value.int .i64)).length)).toArray).heap.size)) uM (.inl hg) Jj (by rw[aM];omega) (by rw[aM];exact h2) J
      (by
        rw[List.map_append,←h3];simp only[aV,Nat.mul_one];rw[List.take_append_of_le_length (by simp;omega)];rw[A9 (by simp;omega)])
      (by intro z hz;rw[List.mem_append]at hz;exact hz.elim (h4 z) (ul z))
     rw[aM]at this;exact this
    ·have bJ:∀j u,(xs.map (Value.int .i64))[j]? =some u→w.cell? ((⟨g,0,none⟩:Addr).add j)=some u:=by
      have cU:w.ownsRow 0 E 1 (.slice (some ⟨g,0,none⟩) xs.length arr.size) xs.length (xs.map (Value.int .i64)):=
       ⟨Jj,.inr ⟨g,arr.size,arr,rfl,A7 _,hh,h1,h2,Jj,by simpa using h3⟩⟩
      exact cU.cells rfl
     obtain⟨v',w',hrun,ho,gM⟩:=run_append_arg_grows (P:=P) w t ty E i z 1 8 ht hi hz aV du eM Jq ⟨g,0,none⟩ xs.length arr.size (xs.map (Value.int .i64)) Jj bJ ⟨b,off,none⟩ ys.length cap (ys.map (Value.int .i64)) Jj cD J (by simp[maxLen];omega) J;rcases ho.2 with⟨_,h⟩|⟨g',cap',cur,rfl,lp,hhg,mj,d8,dp,htake⟩
     ·omega
     ·refine⟨_,w',hrun,?_,⟨gM.os,gM.tape,gM.output,gM.size,fun b hb _=>gM.block b hb Jj⟩,Jj⟩;obtain rfl:cap'=cur.size:=J;exact KH (zs:=xs++ys) (n:=xs.length+ys.length) hhg (.inr ⟨lp,lt_of_block hhg⟩) Jj mj d8 J (by rw[Nat.mul_one]at htake;rw[htake,List.map_append]) (by intro z hz;rw[List.mem_append]at hz;exact hz.elim (h4 z) (ul z))
theorem DM{o:Oper}(iM:o.guard=none)(s xo:Operand)(t:TypeId)
  (ho:o.op=.call {callee:=.builtin .append,args:=#[s,xo],argTypes:=#[t,t]})(E:TypeId)(ht:P.underlying t=some (.slice E))(cH:(P.info? E).map (fun i=>(i.zero,i.size,i.bytes))=some (some z,1,8))(eM:z.cells.size=1)
  (S:Bk){us:Value}{xs ys:U}(hs:a.eval s=v)(hx:a.eval xo=us)(aB:Ag E Ap S w v xs)(kJ:Au w us ys)(aN:xs.length+ys.length≤1099511627776)
  (h:∀v' w',Ag E Ap (fun b=>S b∨(w.heap.size≤b∧b<w'.heap.size)) w' v' (xs++ys)→AO (fun b=>v.ownBlock=some b) w w'→(v'=.slice none 0 0↔v=.slice none 0 0∧ys=[])→wpList P fM Q rest (a.put o.dst v') w'):
  wpList P fM Q (o::rest) a w:=by
 obtain⟨i,hi,hz,aV,du⟩:=info_parts cH;refine wpList_plain iM fun K hK=>?_;obtain⟨v',w',hr,h2,h3,h4⟩:=Xz (P:=P) w t o.type E i z ht hi hz aV du eM S v xs ys us aB kJ aN;unfold Oper.wp execOp;simp only[ho,resolve,invoke,builtin,Sem.run_bind,Sem.run_pure,Result.andThen_ok,List.map_toArray,List.map_cons,List.map_nil,hs,hx,hr];exact hK _ _ (h v' w' h2 h3 h4)
theorem Ps(hR:LZ R)(w:World)(t ty E:TypeId)(i:TypeInfo)(z:Value)(bytes:Nat)(ht:P.underlying t=some (.slice E))(hi:P.info? E=some i)(hz:i.zero=some z)
  (aV:i.size=1)(du:i.bytes=bytes)(eM:z.cells.size=1)(dF:bytes≤64)
  (S T:Bk)(v u:Value)(xs:List α)(x:α)(ad:Addr)(c:Nat)(bH:w.cell? ad=some u)(had:ad.add 0=ad)(aB:Ag E R S w v xs)(hu:R T w u x)(ij:∀b,S b→¬T b)(hS:∀b,S b→b<w.heap.size)(hT:∀b,T b→b<w.heap.size)
  (aN:xs.length<1099511627776):
  ∃v' w',(Builtin.append_ #[t,t] ty #[v,.slice (some ad) 1 c]).run P w=.ok v' w'∧
   Ag E R (fun b=>(S b∨T b∨w.heap.size≤b)∧b<w'.heap.size) w' v' (xs++[x])∧AO (fun b=>v.ownBlock=some b) w w':=by
 have huo:=hR.one hu;have cD:∀j u',[u][j]? =some u'→w.cell? (ad.add j)=some u':=by
  intro j u' hj
  match j,hj with
  |0,hj=>simp at hj;subst hj;rw[had];exact bH
 have wQ:∀u'∈[u],u'.oneCell'=true:=by intro u' hu';simp at hu';subst hu';exact huo
 rcases aB with⟨rfl,rfl⟩|⟨g,arr,rfl,hg,hh,h1,h2,h3,Tk,hT1',hT2,hT3⟩
 ·obtain⟨v',w',hrun,bI,bU,-⟩:=run_append_own (P:=P) w w.heap.size t ty E i z 1 bytes ht hi hz aV du eM Jq (.slice none 0 0) 0 [] (World.ownsRow_nil _ _ _ _)
   ad 1 c [u] rfl cD wQ (by simp[maxLen]) J (A2 _)
  refine⟨v',w',hrun,?_,?_⟩
  ·rcases bI.2 with⟨_,h⟩|⟨g,cap,cur,rfl,lp,hhg,mj,d8,dp,htake⟩
   ·omega
   ·have iG:=lt_of_block hhg;refine .inr ⟨g,cur,by simp at dp;simp[dp],⟨.inr (.inr lp),iG⟩,hhg,by simp at dp;simp;omega,by simp at dp;omega,Jj,fun k b=>T b∧k=0,?_,?_,?_⟩
    ·intro k b hb;have:=hT b hb.1;exact⟨⟨.inr (.inl hb.1),J⟩,J⟩
    ·intro j k b hj hk;rw[hj.2,hk.2]
    ·intro k y hk;have ap:k=0:=by
      have:=(A5.1 hk).1;simpa using this
     subst ap;simp at hk;subst hk;refine⟨u,?_,?_⟩
     ·have:cur.toList[0]? =some u:=by
       have h:=congrArg (fun l=>l[0]?) htake;simp at h;simpa[List.getElem?_take]using h
      simpa using this
     ·refine hR.mono (S:=T) (fun b hb=>⟨hb,rfl⟩) (hR.same (fun b hb=>?_) hu);exact bU.block b (hT b hb) (by simp[Value.ownBlock])
  ·exact⟨bU.os,bU.tape,bU.output,bU.size,fun b hb hn=>bU.block b hb (by simp[Value.ownBlock])⟩
 ·have cU:w.ownsRow 0 E 1 (.slice (some ⟨g,0,none⟩) xs.length arr.size) xs.length (arr.toList.take xs.length):=
   ⟨by simp;omega,.inr ⟨g,arr.size,arr,rfl,A7 _,hh,h1,h2,Jj,Jj⟩⟩
  have wR:∀k y,xs[k]? =some y→∀w':World,(∀b,b<w.heap.size→b≠g→w'.heap[b]? =w.heap[b]?)→∃u',arr[k]? =some u'∧R (Tk k) w' u' y:=by
   intro k y hk w' hw';obtain⟨u',hu',j7⟩:=hT3 k y hk;exact⟨u',hu',hR.same (fun b hb=>hw' b (hS b (hT1' k b hb).1) (hT1' k b hb).2) j7⟩
  have wT:∀b,T b→b≠g:=fun b hb e=>ij g hg (e▸hb);by_cases hroom:xs.length+1≤arr.size
  ·have hr:=run_append_room (P:=P) w t ty E i ht hi g xs.length arr.size arr hh ad 1 c [u] (by simp[aV]) cD wQ hroom (by simp[aV];omega);refine⟨_,_,hr,?_,?_⟩
   ·have aM:(w.setRow g (arr.toList.take (xs.length*i.size)++[u]++arr.toList.drop (xs.length*i.size+[u].length)).toArray).heap.size=w.heap.size:=by simp[World.setRow]
    refine .inr ⟨g,_,?_,⟨.inl hg,?_⟩,setRow_heap _ g arr _ E _ hh,?_,?_,by simp;omega,fun k b=>if k=xs.length then T b else Tk k b∧k<xs.length,?_,?_,?_⟩
    ·simp[aV];omega
    ·exact lt_of_block (setRow_heap _ g arr _ E _ hh)
    ·simp[aV];omega
    ·simp[aV];have:=h2;omega
    ·intro k b hb
     split at hb
     ·exact⟨⟨.inr (.inl hb),by have:=hT b hb;omega⟩,wT b hb⟩
     ·exact⟨⟨.inl (hT1' k b hb.1).1,by have:=hS b (hT1' k b hb.1).1;omega⟩,(hT1' k b hb.1).2⟩
    ·intro j k b hj hk
     split at hj<;>split at hk
     ·omega
     ·exact absurd hj (ij b (hT1' k b hk.1).1)
     ·exact absurd hk (ij b (hT1' j b hj.1).1)
     ·exact hT2 j k b hj.1 hk.1
    ·intro k y hk;have dJ:∀b,b<w.heap.size→b≠g→(w.setRow g (arr.toList.take (xs.length*i.size)++[u]++arr.toList.drop (xs.length*i.size+[u].length)).toArray).heap[b]? =w.heap[b]? :=fun b hb aK=>setRow_other _ g b _ aK;by_cases au:k<xs.length
     ·obtain⟨u',hu',j7⟩:=wR k y (by rw[Aq au]at hk;exact hk) _ dJ;refine⟨u',?_,?_⟩
      ·simp only[aV,Nat.mul_one,Av];rw[List.append_assoc,Aq (by simp;omega),List.getElem?_take,if_pos au];simpa using hu'
      ·simpa[Nat.ne_of_lt au,au]using j7
     ·have kI:k=xs.length:=by
       have:=(A5.1 hk).1;simp at this;omega
      subst kI;simp at hk;subst hk;refine⟨u,?_,?_⟩
      ·simp only[aV,Nat.mul_one,Av];rw[List.append_assoc,List.getElem?_append_right (by simp;omega)];simp[Nat.min_eq_left h1]
      ·simp only[if_true];exact hR.same (fun b hb=>dJ b (hT b hb) (wT b hb)) hu
   ·refine⟨rfl,rfl,rfl,by simp[World.setRow],fun b hb hn=>?_⟩;exact setRow_other _ g b _ (fun e=>hn (by simp[Value.ownBlock,e]))
  ·obtain⟨v',w',hrun,bI,bU⟩:=run_append_arg_grows (P:=P) w t ty E i z 1 bytes ht hi hz aV du eM Jq ⟨g,0,none⟩ xs.length arr.size (arr.toList.take xs.length) (by simp;omega)
    (fun j u' hj=>cU.cells (g:=g) rfl j u' hj) ad 1 c [u] rfl cD J (by simp[maxLen];omega) (by
      have:(xs.length+1)*bytes≤1099511627776*64:=Nat.mul_le_mul J dF;omega)
   refine⟨v',w',hrun,?_,?_⟩
   ·rcases bI.2 with⟨_,h⟩|⟨g',cap,cur,rfl,lp,hhg,mj,d8,dp,htake⟩
    ·omega
    ·have iG:=lt_of_block hhg;simp at lp dp;have dJ:∀b,b<w.heap.size→w'.heap[b]? =w.heap[b]? :=fun b hb=>bU.block b hb Jj;refine .inr ⟨g',cur,by simp[dp],⟨.inr (.inr J),iG⟩,hhg,by simp;omega,J,by simp;omega,fun k b=>if k=xs.length then T b else Tk k b∧k<xs.length,?_,?_,?_⟩
     ·intro k b hb
      split at hb
      ·have:=hT b hb;exact⟨⟨.inr (.inl hb),J⟩,J⟩
      ·have:=hS b (hT1' k b hb.1).1;exact⟨⟨.inl (hT1' k b hb.1).1,J⟩,J⟩
     ·intro j k b hj hk
      split at hj<;>split at hk
      ·omega
      ·exact absurd hj (ij b (hT1' k b hk.1).1)
      ·exact absurd hk (ij b (hT1' j b hj.1).1)
      ·exact hT2 j k b hj.1 hk.1
     ·intro k y hk;have nL:∀j,j<xs.length+1→cur[j]? =(arr.toList.take xs.length++[u])[j]? :=by
       intro j hj;rw[←htake,List.getElem?_take,if_pos J];simp
      by_cases au:k<xs.length
      ·obtain⟨u',hu',j7⟩:=wR k y (by rw[Aq au]at hk;exact hk) w' (fun b hb _=>dJ b hb);refine⟨u',?_,?_⟩
       ·rw[nL k J,Aq (by simp;omega),List.getElem?_take,if_pos au];simpa using hu'
       ·simpa[Nat.ne_of_lt au,au]using j7
      ·have kI:k=xs.length:=by
        have:=(A5.1 hk).1;simp at this;omega
       subst kI;simp at hk;subst hk;refine⟨u,?_,?_⟩
       ·rw[nL _ J,List.getElem?_append_right (by simp;omega)];simp[Nat.min_eq_left h1]
       ·simp only[if_true];exact hR.same (fun b hb=>dJ b (hT b hb)) hu
   ·exact⟨bU.os,bU.tape,bU.output,bU.size,fun b hb _=>bU.block b hb Jj⟩
theorem J2{o:Oper}{K:Act→World→Prop}{Ep:Prop}(iM:o.guard=none)(s xo:Operand)(t:TypeId)
  (ho:o.op=.call {callee:=.builtin .append,args:=#[s,xo],argTypes:=#[t,t]})(hR:LZ R)
  (E:TypeId)(ht:P.underlying t=some (.slice E))(cH:(P.info? E).map (fun i=>(i.zero,i.size,i.bytes))=some (some z,1,bytes))(eM:z.cells.size=1)(dF:bytes≤64)
  (S T:Bk)(hs:a.eval s=v)(hx:a.eval xo=.slice (some ⟨gb,0,none⟩) 1 c)(bH:w.cell? ⟨gb,0,none⟩=some u)(aB:Ag E R S w v xs)(hu:R T w u x)(ij:∀b,S b→¬T b)(hS:∀b,S b→b<w.heap.size)(hT:∀b,T b→b<w.heap.size)(aN:xs.length<1099511627776)
  (h:∀v' w',Ag E R (fun b=>(S b∨T b∨w.heap.size≤b)∧b<w'.heap.size) w' v' (xs++[x])→AO (fun b=>v.ownBlock=some b) w w'→K (a.put o.dst v') w'):
  if Region.wanted o (yielded fM a.tmps)=true then Oper.wp P o a w K Q else Ep:=by
 have hw:Region.wanted o (yielded fM a.tmps)=true:=by simp[Region.wanted,iM]
 rw[if_pos hw];obtain⟨i,hi,hz,aV,du⟩:=info_parts cH;obtain⟨v',w',hr,h2,h3⟩:=Ps (P:=P) hR w t o.type E i z bytes ht hi hz aV du eM dF S T v u xs x ⟨gb,0,none⟩ c bH rfl aB hu ij hS hT aN;unfold Oper.wp execOp;simp only[ho,resolve,invoke,builtin,Sem.run_bind,Sem.run_pure,Result.andThen_ok,List.map_toArray,List.map_cons,List.map_nil,hs,hx,hr];exact h v' w' h2 h3
theorem F6{o:Oper}(iM:o.guard=none)(s xo:Operand)(t:TypeId)
  (ho:o.op=.call {callee:=.builtin .append,args:=#[s,xo],argTypes:=#[t,t]})(hR:LZ R)
  (E:TypeId)(ht:P.underlying t=some (.slice E))(cH:(P.info? E).map (fun i=>(i.zero,i.size,i.bytes))=some (some z,1,bytes))(eM:z.cells.size=1)(dF:bytes≤64)
  (S T:Bk)(hs:a.eval s=v)(hx:a.eval xo=.slice (some ⟨gb,0,none⟩) 1 c)(bH:w.cell? ⟨gb,0,none⟩=some u)(aB:Ag E R S w v xs)(hu:R T w u x)(ij:∀b,S b→¬T b)(hS:∀b,S b→b<w.heap.size)(hT:∀b,T b→b<w.heap.size)(aN:xs.length<1099511627776)
  (h:∀v' w',Ag E R (fun b=>(S b∨T b∨w.heap.size≤b)∧b<w'.heap.size) w' v' (xs++[x])→AO (fun b=>v.ownBlock=some b) w w'→wpList P fM Q rest (a.put o.dst v') w'):
  wpList P fM Q (o::rest) a w:=by
 obtain⟨i,hi,hz,aV,du⟩:=info_parts cH;refine wpList_plain iM fun K hK=>?_;obtain⟨v',w',hr,h2,h3⟩:=Ps (P:=P) hR w t o.type E i z bytes ht hi hz aV du eM dF S T v u xs x ⟨gb,0,none⟩ c bH rfl aB hu ij hS hT aN;unfold Oper.wp execOp;simp only[ho,resolve,invoke,builtin,Sem.run_bind,Sem.run_pure,Result.andThen_ok,List.map_toArray,List.map_cons,List.map_nil,hs,hx,hr];exact hK _ _ (h v' w' h2 h3)
def B9(w:World)(g:Nat)(cs:Array Value)(t:TypeId):Prop:=w.heap[g]? =some (.cells cs t (0,0))
theorem B9.lt(h:B9 w g cs t):g<w.heap.size:=lt_of_block h
theorem B9.keep(h:B9 w g cs t)(hb:Below w.heap.size w w'):B9 w' g cs t:=(hb.block g h.lt).trans h
theorem B9.only(h:B9 w g cs t)(hb:AO S w w')(hn:¬S g):B9 w' g cs t:=(hb.block g h.lt hn).trans h
theorem B9.set(h:B9 w g cs t)(u:Value):B9 (w.setCell ⟨g,j,none⟩ u) g (cs.setIfInBounds j u) t:=heap_setCell_same w g j cs t u h
theorem B9.qah{g':Nat}(h:B9 w g cs t)(aK:g≠g')(u:Value):B9 (w.setCell ⟨g',j,none⟩ u) g cs t:=(Below.heap_setCell w _ _ g (by simpa using aK)).trans h
theorem B9.cell(h:B9 w g cs t)(j:Nat):w.cell? ⟨g,j,none⟩=cs[j]? :=cell_of_row w g j _ _ _ h
theorem B9.frozen(h:B9 w g cs t)(j:Nat):w.frozen? ⟨g,j,none⟩=false:=frozen_of_row w g j _ _ h
theorem B9.new(w:World)(cs:Array Value)(t:TypeId):B9 (w.alloc (.cells cs t)) w.heap.size cs t:=heap_alloc_new w _
def PS:CP Value:=fun _ _ u x=>u=x∧u.oneCell'=true
theorem EW:LZ PS:=⟨fun _ h=>h,fun _ h=>h,fun h=>h,fun h=>h.2⟩
theorem Ag.raw(h:Ag E PS S w v us)(hl:us.length=xs.length)(hr:∀(k:Nat)(u:Value)(x:α),us[k]? =some u→xs[k]? =some x→R (fun b=>b<w.heap.size) w u x):Rd (Sl R) w v xs:=by
 rcases h with⟨rfl,rfl⟩|⟨g,arr,rfl,hg,hh,h1,h2,h3,T,d5,hT2,hT3⟩
 ·obtain rfl:xs=[]:=List.eq_nil_of_length_eq_zero hl.symm;exact⟨none,0,rfl,Jj,Jj,fun _=>rfl,fun h=>by simp at h⟩
 ·refine⟨_,_,by rw[hl],J,by rw[←hl];exact Aj h3 Jq,fun h=>by simp at h,fun _=>⟨g,0,rfl,lt_of_block hh,fun k x hk=>?_⟩⟩;have au:=(A5.1 hk).1;have hku:=A3 (l:=us) (i:=k) J;obtain⟨u,hu,rfl,-⟩:=hT3 k _ hku;refine⟨us[k],?_,hr k _ x hku hk⟩;rw[cell_of_row w g _ arr E (0,0) hh,Nat.zero_add];exact hu
def In{α:Type}(R:CP α)(w:World)(us:List Value)(xs:List α):Prop:=us.length=xs.length∧∀(k:Nat)(u:Value)(x:α),us[k]? =some u→xs[k]? =some x→R (fun b=>b<w.heap.size) w u x
theorem In.nil(R:CP α)(w:World):In R w ([]:List Value) ([]:List α):=⟨rfl,fun k u x (h:([]:List Value)[k]? =some u)=>by simp at h⟩
theorem In.keep(hR:LZ R)(h:In R w us xs)(hb:Below w.heap.size w w'):In R w' us xs:=
 ⟨h.1,fun k u x hu hx=>hR.mono (fun _ kg=>Aa kg hb.size) (hR.same (Ac hb fun _ h=>h) (h.2 k u x hu hx))⟩
theorem In.snoc(h:In R w us xs)(hu:Rd R w u x):In R w (us++[u]) (xs++[x]):=by
 refine⟨by rw[Ad,Ad,h.1];rfl,fun k v y hv hy=>?_⟩;by_cases hk:k<us.length
 ·rw[Aq hk]at hv;rw[Aq (by rw[←h.1];exact hk)]at hy;exact h.2 k v y hv hy
 ·have h1:=(A5.1 hv).1;rw[Ad,List.length_singleton]at h1;have kI:k=us.length:=J;subst kI;rw[List.getElem?_append_right (A2 _),Nat.sub_self]at hv;rw[List.getElem?_append_right (by rw[h.1];exact A2 _),h.1,Nat.sub_self]at hy;simp at hv hy;subst hv;subst hy;exact hu
theorem In.list(h:In R w us xs)(ho:Ag E PS S w v us):Rd (Sl R) w v xs:=ho.raw h.1 h.2

/- Base. -/
import Derived.Test.YthmocomfjgmjoaaGreatDoorQ06
import Derived.Test.YthmocomfjgmjoaaGreatDoorQ07
import Derived.Test.YthmocomfjgmjoaaGreatDoorQ04
import Derived.Test.YthmocomfjgmjoaaGreatDoorQ08
set_option maxHeartbeats 4000000
set_option maxRecDepth 100000
namespace Go.Proofs.YthmocomfjgmjoaaGreatDoor
variable {C R:I}{c:Nat}{m n:I}{r y:Nat}
def CO(r c:Nat)(m:I):Prop:=m.length=r∧∀row∈m,row.length=c∧∀x∈row,-1≤x∧x≤1
theorem CO.row(h:CO r c m)(hy:y<r):m[y]? =some (m.getD y [])∧(m.getD y []).length=c∧∀x∈m.getD y [],-1≤x∧x≤1:=by
 have hl:y<m.length:=by rw[h.1];exact hy
 have e:=BO [] hl;obtain⟨h1,h2⟩:=h.2 _ (A4 e);exact⟨e,h1,h2⟩
theorem CO.ext{a b:I}(ha:CO r c a)(hb:CO r c b)(h:∀y x,y<r→x<c→AJ a y x=AJ b y x):a=b:=by
 apply List.ext_getElem?;intro y;by_cases hy:y<r
 ·obtain⟨h1,h2,-⟩:=ha.row hy;obtain⟨h3,h4,-⟩:=hb.row hy;rw[h1,h3]
  congr 1
  apply List.ext_getElem?;intro x;by_cases hx:x<c
  ·have:=h y x hy hx;unfold AJ at this;rw[BO 0 J,BO 0 J,this]
  ·rw[Am J,Am J]
 ·rw[Am (by rw[ha.1];omega),Am (by rw[hb.1];omega)]
theorem CO.head(h:CO r c m)(h1:1≤r):(m.headD []).length=c:=by
 cases m with
 |nil=>have:=h.1;simp at this;omega
 |cons a m=>exact(h.2 a Jj).1
theorem Wd(h:CO r c m)(h1:1≤r){i j:Nat}(hi:i<r)(hj:j<c):AJ (tr m) j i=AJ m i j:=by
 have e:(tr m)[j]? =some ((List.range r).map fun i=>AJ m i j):=by
  unfold tr;rw[h.head h1,h.1];simp[hj,AJ]
 unfold AJ at e⊢;rw[B7 e];exact B7 (by simp[hi])
theorem CO.tr(h:CO r c m)(h1:1≤r):CO c r (tr m):=by
 unfold Go.Proofs.YthmocomfjgmjoaaGreatDoor.tr;rw[h.head h1,h.1];refine⟨Jj,fun row aD=>?_⟩;obtain⟨j,hj,rfl⟩:=AE.1 aD;refine⟨Jj,fun x hx=>?_⟩;obtain⟨i,hi,rfl⟩:=AE.1 hx;obtain⟨e,hl,hb⟩:=h.row (AG.1 hi);by_cases hjc:j<(m.getD i []).length
 ·exact hb _ (A4 (BO 0 hjc))
 ·rw[Gk J];decide
def sl(R:I)(m:I)(y:Nat):Option U:=BA (R.getD y []) (m.getD y [])
def D3(R m:I):Bool:=(List.range m.length).all fun y=>(sl R m y).isSome
def Gl(R m:I)(k:Nat):I:=(List.range k).map fun y=>(sl R m y).getD []
def ES(R m:I):I:=Gl R m m.length
def Uo(R m:I):I:=if D3 R m then ES R m else[]
theorem A2d(h:D3 R m=false):Uo R m=[]:=by unfold Uo;rw[h];rfl
theorem PM(h:D3 R m=true):Uo R m=ES R m:=by unfold Uo;rw[h];rfl
def Ip(R C m:I):Option I:=
 if D3 R m then(if D3 C (tr (ES R m))then some (tr (ES C (tr (ES R m))))else none)else none
def J1(R C:I):Nat→I→Option I
 |0,m=>match Ip R C m with|none=>none|some n=>if n=m then some m else none
 |f+1,m=>match Ip R C m with|none=>none|some n=>if n=m then some m else J1 R C f n
def EE(r c:Nat):I:=List.replicate r (List.replicate c (-1))
def Gr(R C:I):Option I:=if Bv R C then J1 R C (R.length*C.length) (EE R.length C.length)else none
theorem PR{rs st o:U}(h:BA rs st=some o):o.length=st.length∧(∀x∈o,-1≤x∧x≤1)∧∀i,i<st.length→st.getD i 0≠-1→o.getD i 0=st.getD i 0:=by
 unfold BA at h
 split at h
 ·rename_i hok
  obtain⟨h1,h2⟩:=Lr (n:=st.length) (rs:=rs) (st:=st) _ (A2 _) o h;refine⟨h1,h2,fun i hi aK=>?_⟩;have bB:-1≤st.getD i 0:=by
   unfold Is at hok;rw[Af]at hok;have:=Ar.1 hok.2 (st.getD i 0) (A4 (BO 0 hi));rw[Bz]at this;exact this.1
  have key:∀k,k≤(BC rs st.length).length→∀o,Cg (BC rs st.length) st k=some o→o.getD i 0=st.getD i 0:=by
   intro k;induction k with
   |zero=>intro _ o h;simp[Cg]at h
   |succ k ih=>
    intro hk o h;have bt:(BC rs st.length)[k]? =some (BC rs st.length)[k]:=A3 J;rw[IB bt]at h;obtain⟨line,hl⟩:∃line,line=(BC rs st.length)[k]:=⟨_,rfl⟩;rw[←hl]at h bt;have dN:line.length=st.length:=by
     have hm:=A4 bt;unfold BC Er at hm;have:=(List.mem_filter.1 hm).1;obtain⟨key,-,rfl⟩:=AE.1 this;exact Fd _ _
    unfold FY at h
    split at h
    ·rename_i ha
     have fe:MI st line i=true:=by
      unfold K5 Fs at ha;exact Ar.1 ha i (AG.2 J)
     rw[NP (BO 0 hi) (BO 0 (by omega:i<line.length))]at fe;have hli:line.getD i 0=st.getD i 0:=by
      simp only[Bool.or_eq_true,Ah,beq_iff_eq]at fe;omega
     cases hs:Cg (BC rs st.length) st k with
     |none=>rw[hs]at h;simp at h;rw[←h];exact hli
     |some o'=>
      rw[hs]at h;simp at h;have hih:=ih J o' hs;have ho':=(Lr (n:=st.length) (rs:=rs) (st:=st) k J o' hs).1;rw[←h];have e:(Fn o' line)[i]? =some (Fz (o'.getD i 0) (line.getD i 0)):=by
       unfold Fn;rw[List.getElem?_zipWith,BO 0 (by omega:i<o'.length),BO 0 (by omega:i<line.length)]
      rw[B7 e,hih,hli];simp[Fz]
    ·exact ih J o h
  exact key _ (A2 _) o h
 ·cases h
theorem Uf{k:Nat}(hy:y<k):(Gl R m k)[y]? =some ((sl R m y).getD []):=by
 unfold Gl;simp[hy]
theorem Ql(R m:I)(k:Nat):Gl R m (k+1)=Gl R m k++[(sl R m k).getD []]:=by
 unfold Gl;rw[List.range_succ,List.map_append];rfl
theorem GR(R m:I)(k:Nat):(Gl R m k).length=k:=by simp[Gl]
theorem Kl(hm:CO r c m)(h:D3 R m=true):CO r c (ES R m)∧∀i j,i<r→j<c→AJ m i j≠-1→AJ (ES R m) i j=AJ m i j:=by
 have hs:∀y,y<r→∃o,sl R m y=some o∧o.length=c∧(∀x∈o,-1≤x∧x≤1)∧∀i,i<c→(m.getD y []).getD i 0≠-1→o.getD i 0=(m.getD y []).getD i 0:=by
  intro y hy;unfold D3 at h;have:=Ar.1 h y (AG.2 (by rw[hm.1];exact hy));obtain⟨o,ho⟩:=Option.isSome_iff_exists.1 this;obtain⟨h1,h2,h3⟩:=PR ho;obtain⟨-,hl,-⟩:=hm.row hy;rw[hl]at h1 h3;exact⟨o,ho,h1,h2,h3⟩
 constructor
 ·refine⟨by unfold ES;rw[GR,hm.1],fun row aD=>?_⟩;unfold ES Gl at aD;obtain⟨y,hy,rfl⟩:=AE.1 aD;obtain⟨o,ho,h1,h2,-⟩:=hs y (by have:=AG.1 hy;rw[hm.1]at this;exact this);rw[ho];exact⟨h1,h2⟩
 ·intro i j hi hj aK;obtain⟨o,ho,h1,h2,h3⟩:=hs i hi;unfold AJ at aK⊢;have e:(ES R m)[i]? =some o:=by
   unfold ES;rw[Uf (by rw[hm.1];exact hi),ho];rfl
  rw[B7 e];exact h3 j hj aK
theorem PN(h1:1≤r)(h2:1≤c)(hm:CO r c m)(h:Ip R C m=some n):CO r c n∧∀i j,i<r→j<c→AJ m i j≠-1→AJ n i j=AJ m i j:=by
 unfold Ip at h
 split at h
 ·rename_i gx
  split at h
  ·rename_i ke
   injection h with h;subst h;obtain⟨a1,a2⟩:=Kl hm gx;have b1:=a1.tr h1;obtain⟨c1,c2⟩:=Kl b1 ke;refine⟨c1.tr h2,fun i j hi hj aK=>?_⟩;have e1:=a2 i j hi hj aK;have e2:=Wd a1 h1 hi hj;rw[Wd c1 h2 hj hi,c2 j i hj hi (by rw[e2,e1];exact aK),e2,e1]
  ·cases h
 ·cases h
def Ob(l:U):Nat:=(l.filter fun x=>x==-1).length
def U2(m:I):Nat:=(m.map Ob).sum
theorem Yk:∀(o st:U),o.length=st.length→(∀i,i<st.length→st.getD i 0≠-1→o.getD i 0=st.getD i 0)→Ob o≤Ob st∧(Ob o=Ob st→o=st)
 |[],[],_,_=>⟨A2 _,fun _=>rfl⟩
 |[],_::_,h,_=>by simp at h
 |_::_,[],h,_=>by simp at h
 |a::o,b::st,h,hr=>by
  have ih:=Yk o st (by simpa using h) (fun i hi aK=>by have:=hr (i+1) (by simpa using hi) (by simpa using aK);simpa using this);have h0:=hr 0 Jj;simp at h0;have ea:Ob (a::o)=(if a=-1 then 1 else 0)+Ob o:=by unfold Ob;by_cases ha:a=-1<;>simp[ha];omega
  have eb:Ob (b::st)=(if b=-1 then 1 else 0)+Ob st:=by unfold Ob;by_cases hb:b=-1<;>simp[hb];omega
  rw[ea,eb];by_cases hb:b=-1
  ·rw[if_pos hb];refine⟨by split<;>omega,fun he=>?_⟩;by_cases ha:a=-1
   ·rw[if_pos ha]at he;rw[ha,hb,ih.2 J]
   ·rw[if_neg ha]at he;omega
  ·have gZ:=h0 hb;subst gZ;refine⟨J,fun he=>?_⟩;rw[ih.2 J]
theorem A09:∀(n m:I),n.length=m.length→(∀y,y<m.length→(n.getD y []).length=(m.getD y []).length∧∀i,i<(m.getD y []).length→(m.getD y []).getD i 0≠-1→(n.getD y []).getD i 0=(m.getD y []).getD i 0)→U2 n≤U2 m∧(U2 n=U2 m→n=m)
 |[],[],_,_=>⟨A2 _,fun _=>rfl⟩
 |[],_::_,h,_=>by simp at h
 |_::_,[],h,_=>by simp at h
 |a::n,b::m,h,hr=>by
  have ih:=A09 n m (by simpa using h) (fun y hy=>by have:=hr (y+1) (by simpa using hy);simpa using this);have h0:=hr 0 Jj;simp at h0;have aD:=Yk a b h0.1 (fun i hi aK=>by have:=h0.2 i hi;simp at this aK;simpa using this aK);have ea:U2 (a::n)=Ob a+U2 n:=by simp[U2]
  have eb:U2 (b::m)=Ob b+U2 m:=by simp[U2]
  rw[ea,eb];exact⟨J,fun he=>by rw[aD.2 J,ih.2 J]⟩
theorem ZP(h1:1≤r)(h2:1≤c)(hm:CO r c m)(h:Ip R C m=some n)(aK:n≠m):U2 n<U2 m:=by
 obtain⟨hn,href⟩:=PN h1 h2 hm h;have:=A09 n m (by rw[hn.1,hm.1]) (fun y hy=>by
  rw[hm.1]at hy;obtain⟨-,e1,-⟩:=hn.row hy;obtain⟨-,e2,-⟩:=hm.row hy;exact⟨by rw[e1,e2],fun i hi=>href y i hy J⟩)
 rcases Nat.lt_or_ge (U2 n) (U2 m)with h3|h3
 ·exact h3
 ·exact absurd (this.2 J) aK
theorem H0(r c:Nat):CO r c (EE r c):=by
 refine⟨by simp[EE],fun row aD=>?_⟩;have:=List.eq_of_mem_replicate aD;subst this;exact⟨Jj,fun x hx=>by have:=List.eq_of_mem_replicate hx;omega⟩
theorem Xg(r c:Nat):U2 (EE r c)=r*c:=by
 have e:Ob (List.replicate c (-1))=c:=by unfold Ob;simp
 unfold U2 EE;rw[List.map_replicate,e];simp
theorem YV(h1:1≤r)(h2:1≤c):∀(f:Nat)(m d:I),CO r c m→J1 R C f m=some d→CO r c d:=by
 intro f;induction f with
 |zero=>
  intro m d hm h;unfold J1 at h
  split at h
  ·cases h
  ·split at h
   ·injection h with h;subst h;exact hm
   ·cases h
 |succ f ih=>
  intro m d hm h;unfold J1 at h
  split at h
  ·cases h
  ·rename_i n hn
   split at h
   ·injection h with h;subst h;exact hm
   ·exact ih n d (PN h1 h2 hm hn).1 h
end Go.Proofs.YthmocomfjgmjoaaGreatDoor
namespace Go.Proofs.YthmocomfjgmjoaaGreatDoor
open Go.RowKit
variable {C R:I}{c:Nat}{g:I}{k:Nat}{m:I}{r:Nat}{v:Int}{w:World}{x y:Nat}
theorem UT(v:Value)(m:I)(r c:Nat)(w:World)(hv:AI w v m)(an:CO r c m)(hr1:1≤r)(hr5:r≤5)(hc1:1≤c)(hc5:c≤5):Calls Tryz.prog 302 #[v] w (N7 32 (Ag 3 Ap) w (tr m)):=by
 have Hv:=Z hv;obtain⟨a,cap0,rfl,ae,cJ,-,hc⟩:=hv;have bF:m.length=r:=an.1;have kX:=Z bF;have mg:=Z (an.head hr1);obtain⟨bE,hrl0,-⟩:=an.row (y:=0) J;obtain⟨ft,hrow00⟩:∃ft,ft=m.getD 0 []:=⟨_,rfl⟩;rw[←hrow00]at bE hrl0;obtain⟨b,off,rfl,hb,bO⟩:=hc J;obtain⟨u0,hck0,eK⟩:=bO 0 ft bE;obtain⟨a0,cp0,rfl,-⟩:=eK;rw[hrl0,AF]at hck0;rw[bF]at ae cJ⊢;have Hv:=Hv;rw[bF]at Hv;clear hc bO bE hrl0 bF hrow00;go_enter Tryz.func302,Tryz.ntmps302;go_wp2_with fail;refine(KN c r _ J J).mono ?_;rintro e w1 ⟨v1,rfl,aB,aA⟩;have cQ:=aA.size;obtain⟨G,cap,rfl,hG,hcapG,hGs,-⟩:=aB.qac (by simp[BJ];omega);have iA:(BJ c r).length=c:=by simp[BJ]
 rw[iA]at hcapG aB⊢;rw[←Ux m r c]at aB;have aC:=Z aB;clear aB iA;go_wp2;go_loopw [4,5,6,7,17] (fun _ _ _ _ i wr=>∃k:Nat,k≤r∧i=.int .i64 k∧Ag 32 (Ag 3 Ap) (Iv w.heap.size w1.heap.size) wr (.slice (some ⟨G,0,none⟩) c cap) (Je m r c k 0)∧Below w.heap.size w wr∧w1.heap.size≤wr.heap.size) (fun _ _ _ _ i _=>r-(intOf i).toNat);exact⟨0,A7 _,rfl,aC.o,aA,A2 _⟩;clear aC aA;obtain⟨k,hk,rfl,aB,aA,aM⟩:=hrel;by_cases aF:k<r
 ·obtain⟨aD,aj,eE⟩:=an.row aF;obtain⟨row,hrow00⟩:∃row,row=m.getD k []:=⟨_,rfl⟩;rw[←hrow00]at aD aj eE;obtain⟨u,aW,hu⟩:=Sl.at Hv.o aD;have hu:Au w u row:=hu;obtain⟨br,offr,cpr,rfl,dL,bA⟩:=hu.qac J;rw[←aA.cell (p:=⟨b,off+k,none⟩) hb]at aW;rw[aj]at aW hu;have aC:=Z aB;have da:=Z aD;have iu:=Z aj;have Hu:=Z hu;clear aB aD aj hu hrow00;have rC:decide ((k:Int)<(r:Int))=true:=by simp;omega
  go_wp2;obtain⟨wo,hwo⟩:∃wo:World,wo=wr:=⟨_,rfl⟩;clear aW;go_loopw [6,7,24] (fun _ _ i wr=>∃j:Nat,j≤c∧i=.int .i64 j∧Ag 32 (Ag 3 Ap) (Iv w.heap.size w1.heap.size) wr (.slice (some ⟨G,0,none⟩) c cap) (Je m r c k j)∧Below w.heap.size w wr∧w1.heap.size≤wr.heap.size) (fun _ _ i _=>c-(intOf i).toNat);exact⟨0,A7 _,rfl,aC.o,aA,aM⟩;clear aC aA aM hwo;obtain⟨j,hj,rfl,aB,aA,aM⟩:=hrel;by_cases hltj:j<c
  ·obtain⟨z,hz⟩:∃z,row[j]? =some z:=⟨_,A3 (by rw[iu.o];exact hltj)⟩;have ik:=eE z (A4 hz);have oI:=Au.at Hu.o hz;rw[←aA.cell (p:=⟨br,offr+j,none⟩) dL]at oI;have hq:=Sh (m:=m) (r:=r) (c:=c) (y:=k) hltj;obtain⟨q,cq,aH,-,hSq,hqG,dj,hx,-,ai⟩:=AV aB hq (by simp;omega);have jf:((List.range r).map fun i=>if i<k∨(i=k∧j<j)then(m.getD i []).getD j 0 else 0).length=r:=Jj;rw[jf]at aH dj hx;obtain⟨⟨o,kv⟩,g8⟩:=hx k aF;have bH:=ai wr (fun _ _=>rfl) k z (by rw[jf];exact aF) (Cc.small J J);rw[Yq hltj aF da.o hz hq]at bH;have bq:=Z bH;have gT:=hSq.1;clear aB hz hq hx ai jf bH;go_wp2;go_roundw;exact⟨j+1,J,by go_num,bq.o,aA.setCell gT _,by rw[As];exact aM⟩;exact Jv
  ·obtain rfl:j=c:=J;rw[UP]at aB;have aC:=Z aB;clear aB;go_wp2;go_roundw;exact⟨k+1,J,by go_num,aC.o,aA,aM⟩;exact Jv
 ·have aC:=Z aB;clear aB;go_wp2
  go_ret
  obtain rfl:k=r:=J;refine⟨_,rfl,?_,aA⟩;rw[←Yx m k c kX.o mg.o];exact(Ab (Ab A8)).mono (fun b hb=>⟨hb.1,Aa hb.2 aM⟩) aC.o
theorem UG(v v2:Value)(R m:I)(w:World)(hv:AI w v R)(aS:AI w v2 m)(hl:m.length≤R.length)(h5:m.length≤5):Calls Tryz.prog 301 #[v,v2] w fun e w'=>∃v',e=.returned (.tuple #[v',.bool (D3 R m)])∧Ag 32 (Ag 3 Ap) (Iv w.heap.size w'.heap.size) w' v' (Uo R m)∧Below w.heap.size w w':=by
 have Hv:=Z hv;have aY:=Z aS;obtain⟨a,cap,rfl,-,cJ,-⟩:=hv;obtain⟨a2,cap2,rfl,-,hle2,-⟩:=aS;go_enter Tryz.func301,Tryz.ntmps301;go_wp2;go_loopw [6,14] (fun v i wr=>∃k:Nat,k≤m.length∧i=.int .i64 k∧Hid (∀y,y<k→(sl R m y).isSome=true)∧Ag 32 (Ag 3 Ap) (Iv w.heap.size wr.heap.size) wr v (Gl R m k)∧Below w.heap.size w wr) (fun _ i _=>m.length-(intOf i).toNat);exact⟨0,A7 _,rfl,fun y hy=>by omega,BK _ _ _ (Ab A8),Below.qab _ _⟩;obtain⟨k,hk,rfl,aT,aB,aA⟩:=hrel;obtain⟨wo,rfl⟩:∃wo:World,wo=wr:=⟨_,rfl⟩;have bD:=aA.size;by_cases aF:k<m.length
 ·have hltR:k<R.length:=J;obtain⟨b,off,cpr,he,hb,-⟩:=Hv.o.qac J;obtain⟨rfl,-⟩:a=some ⟨b,off,none⟩∧cap=cpr:=by simpa using he
  obtain⟨b2,off2,cpr2,dX,af,-⟩:=aY.o.qac J;obtain⟨rfl,-⟩:a2=some ⟨b2,off2,none⟩∧cap2=cpr2:=by simpa using dX
  obtain⟨u,aW,hu⟩:=Sl.at Hv.o (BO [] hltR);obtain⟨u2,dw,eO⟩:=Sl.at aY.o (BO [] aF);have hu:Au w u (R.getD k []):=hu;have eO:Au w u2 (m.getD k []):=eO;rw[←aA.cell (p:=⟨b,off+k,none⟩) hb]at aW;rw[←aA.cell (p:=⟨b2,off2+k,none⟩) af]at dw;have Hu:=Z (hu.keep aA);have jk:=Z (eO.keep aA);obtain⟨p1,p2,rfl,-⟩:=hu;obtain⟨q1,q2,rfl,-⟩:=eO;obtain⟨x1,bj⟩:∃x,x=R.getD k []:=⟨_,rfl⟩;obtain⟨x2,dZ⟩:∃x,x=m.getD k []:=⟨_,rfl⟩;have nZ:=Z (show sl R m k=BA x1 x2 from by rw[bj,dZ];rfl);rw[←bj]at aW Hu;rw[←dZ]at dw jk;have au:(Gl R m k).length<1099511627776:=by rw[GR];omega
  have aG:=Z (Ql R m k);have aC:=Z aB;clear aB he dX bj dZ;go_wp2_with fail;refine(VG _ _ _ _ _ Hu.o jk.o).mono ?_;rintro e w1 ⟨v1,rfl,o1,b1⟩;have cQ:wo.heap.size≤w1.heap.size:=b1.size;obtain⟨r1,r2,r3,rfl⟩:=o1.shape;have fS:=Z o1;clear o1;cases hsol:(BA x1 x2).isSome
  ·have Hf:=Z (show D3 R m=false from by
    rw[←Bool.not_eq_true];intro h;unfold D3 at h;have:=Ar.1 h k (AG.2 aF);rw[nZ.o,hsol]at this;cases this)
   have dK:=aA.qaa b1 (A2 _);clear hsol;go_wp2;rw[Hf.o]
   go_ret2
   exact⟨_,rfl,by rw[A2d Hf.o];exact Ag.nil _ _ _ _,dK⟩
  ·have eA:=Z hsol;clear hsol;go_wp2_with (first|(at_builtin;(refine AH rfl _ _ 31 rfl (Ab A8) 32 Tryz.underlying31 EI rfl Jq w.heap.size wo.heap.size bD cQ rfl rfl (by exact Ag.keep (Ab A8) aC.o b1 (A2 _)) (by exact fS.o) au ?_);intro v2 w2 hown2 hbel2 _)|fail);have af:=(aA.trans (b1.mono bD)).trans hbel2;have aX:=Z hown2;clear hown2;go_wp2;go_roundw
   case rel=>
    refine⟨k+1,J,by go_num,fun y hy=>?_,by rw[aG.o,nZ.o];exact aX.o,af⟩;by_cases hZ:y<k
    ·exact aT.o y hZ
    ·obtain rfl:y=k:=J;rw[nZ.o];exact eA.o
   case measure=>exact Jv
 ·have hkm:k=m.length:=J;have Hf:=Z (show D3 R m=true from by
   unfold D3;rw[Ar];intro y hy;exact aT.o y (by rw[hkm];exact AG.1 hy))
  have Hv:=Z (show Gl R m k=ES R m from by rw[hkm];rfl);have aC:=Z aB;clear aB hkm;go_wp2;rw[Hf.o]
  go_ret2
  exact⟨_,rfl,by rw[PM Hf.o,←Hv.o];exact aC.o,aA⟩
theorem A2N(hy:y<m.length)(i:Nat):(setC m y x v).getD i []=if i=y then(m.getD y []).set x v else m.getD i []:=by
 unfold setC;by_cases hi:i=y
 ·subst hi;rw[if_pos rfl,JL hy]
 ·rw[if_neg hi,RA J]
theorem XA(h:CO r c m)(hy:y<r)(hx:x<c)(v:Int)(i j:Nat):AJ (setC m y x v) i j=if i=y∧j=x then v else AJ m i j:=by
 unfold AJ;rw[A2N (by rw[h.1];exact hy)];obtain⟨-,hl,-⟩:=h.row hy;by_cases hi:i=y
 ·subst hi;rw[if_pos rfl];by_cases hj:j=x
  ·subst hj;rw[if_pos ⟨rfl,rfl⟩,JL J]
  ·rw[if_neg (fun h=>hj h.2),RA J]
 ·rw[if_neg hi,if_neg (fun h=>hi h.1)]
theorem CO.setC(h:CO r c m)(hy:y<r)(h0:-1≤v)(h1:v≤1):CO r c (setC m y x v):=by
 obtain⟨-,hl,hb⟩:=h.row hy;refine⟨by unfold Go.Proofs.YthmocomfjgmjoaaGreatDoor.setC;rw[List.length_set];exact h.1,fun row aD=>?_⟩;unfold Go.Proofs.YthmocomfjgmjoaaGreatDoor.setC at aD;rcases List.mem_or_eq_of_mem_set aD with h2|h2
 ·exact h.2 row h2
 ·subst h2;refine⟨by rw[List.length_set];exact hl,fun z hz=>?_⟩;rcases List.mem_or_eq_of_mem_set hz with h3|h3
  ·exact hb z h3
  ·subst h3;exact⟨h0,h1⟩
def FN(r c y x:Nat)(g:I):Prop:=CO r c g∧∀i j,i<r→j<c→AJ g i j=if i<y∨(i=y∧j<x)then-1 else 0
theorem P6(r c:Nat):FN r c 0 0 (BJ r c):=by
 refine⟨⟨by simp[BJ],fun row aD=>?_⟩,fun i j _ _=>by rw[MR,if_neg J]⟩;have:=List.eq_of_mem_replicate aD;subst this;exact⟨Jj,fun x hx=>by have:=List.eq_of_mem_replicate hx;omega⟩
theorem FN.step{r c y x:Nat}{g:I}(h:FN r c y x g)(hy:y<r)(hx:x<c):FN r c y (x+1) (g.set y ((g.getD y []).set x (-1))):=by
 refine⟨h.1.setC hy Jq Jq,fun i j hi hj=>?_⟩;have:=XA h.1 hy hx (-1) i j;unfold setC at this;rw[this,h.2 i j hi hj];by_cases he:i=y∧j=x
 ·rw[if_pos he,if_pos J]
 ·rw[if_neg he];by_cases h1:i<y∨(i=y∧j<x)
  ·rw[if_pos h1,if_pos J]
  ·rw[if_neg h1,if_neg J]
theorem FN.next(h:FN r c y c g):FN r c (y+1) 0 g:=by
 refine⟨h.1,fun i j hi hj=>?_⟩;rw[h.2 i j hi hj];by_cases h1:i<y∨(i=y∧j<c)
 ·rw[if_pos h1,if_pos J]
 ·rw[if_neg h1,if_neg J]
theorem FN.done(h:FN r c r 0 g):g=EE r c:=by
 refine h.1.ext (H0 r c) fun i j hi hj=>?_;rw[h.2 i j hi hj,if_pos (.inl hi)];unfold AJ EE;rw[B7 (l:=List.replicate r _) (x:=List.replicate c (-1)) (by rw[List.getElem?_replicate,if_pos hi])];exact(B7 (by rw[List.getElem?_replicate,if_pos hj])).symm
theorem Sd{n:I}(h1:1≤r)(h2:1≤c)(hm:CO r c m)(hk:U2 m≤k)(hs:Ip R C m=some n)(aK:n≠m):∃k',k'<k∧U2 n≤k'∧J1 R C k m=J1 R C k' n∧CO r c n:=by
 have hl:=ZP h1 h2 hm hs aK;cases k with
 |zero=>omega
 |succ k=>
  refine⟨k,Nat.lt_succ_self _,J,?_,(PN h1 h2 hm hs).1⟩;rw[J1,hs];simp only;rw[if_neg aK]
theorem Rl(hs:Ip R C m=some m):J1 R C k m=some m:=by
 cases k<;>(rw[J1,hs];simp)
theorem Lf(hs:Ip R C m=none):J1 R C k m=none:=by
 cases k<;>rw[J1,hs]
theorem US(h:D3 R m=false):Ip R C m=none:=by unfold Ip;rw[h];rfl
theorem UE(h:D3 R m=true)(h2:D3 C (tr (ES R m))=false):Ip R C m=none:=by unfold Ip;rw[h,h2];rfl
theorem V6(h:D3 R m=true)(h2:D3 C (tr (ES R m))=true):Ip R C m=some (tr (ES C (tr (ES R m)))):=by unfold Ip;rw[h,h2];rfl
theorem KB(h:Bv R C=false):Gr R C=none:=by unfold Gr;rw[h];rfl
theorem Oc(h:Bv R C=true):Gr R C=J1 R C (R.length*C.length) (EE R.length C.length):=by unfold Gr;rw[h];rfl
theorem FO(h:Bv R C=true):1≤R.length∧R.length≤5∧1≤C.length∧C.length≤5:=by
 unfold Bv at h;simp only[Af,Bz]at h;omega
theorem A3v{α:Type}{D:Option α}(h:D=none):D.isSome=false:=by rw[h];rfl
theorem A33(a b:Value)(R C:I)(w:World)(h1:AI w a R)(h2:AI w b C):
  Calls Tryz.prog 269 #[.agg #[a,b]] w fun e w'=>∃v',e=.returned (.tuple #[v',.bool (Gr R C).isSome])∧Ag 32 (Ag 3 Ap) (Iv w.heap.size w'.heap.size) w' v' ((Gr R C).getD [])∧Below w.heap.size w w':=by
 obtain⟨aa,ca,rfl,-⟩:=id h1;obtain⟨ab,cb,rfl,-⟩:=id h2;obtain⟨D,hD⟩:∃D,D=Gr R C:=⟨_,rfl⟩;rw[←hD];obtain⟨W1,hW1⟩:∃W1,W1=w.alloc (.cells #[.slice aa R.length ca,.slice ab C.length cb] 85):=⟨_,rfl⟩;have dV:Below w.heap.size w W1:=by rw[hW1];exact Below.qab _ _
 have iz:W1.heap.size=w.heap.size+1:=by rw[hW1];simp
 have kB:B9 W1 w.heap.size #[.slice aa R.length ca,.slice ab C.length cb] 85:=by rw[hW1];exact B9.new _ _ _
 have G1:=Z (h1.keep dV);have G2:=Z (h2.keep dV);have cN:=Z dV;have iJ:=Z kB;have e9:=Z iz;clear h1 h2 dV iz kB;cases hok:Bv R C
 ·have Hn:=Z (A3v (hD.trans (KB hok)));have mH:=Z (show D.getD []=[]from by rw[hD,KB hok];rfl);have aR:=Z hok;clear hok hD;go_enter Tryz.func269,Tryz.ntmps269;subst hW1;go_wp2_with fail;refine(Lm _ _ _ _ _ G1.o G2.o).mono ?_;rintro e w2 ⟨rfl,hw2⟩;have b2:=cN.o.qaa (show Below _ _ w2 from by rw[hw2];exact Below.qab _ _) (A2 _);rw[aR.o];clear hw2;go_wp2;rw[Hn.o,mH.o]
  go_ret2
  exact⟨_,rfl,Ag.nil _ _ _ _,b2⟩
 have HD:=Z (hD.trans (Oc hok));obtain⟨hr1,hr5,hc1,hc5⟩:=FO hok;have aR:=Z hok;clear hok hD;go_enter Tryz.func269,Tryz.ntmps269;subst hW1;go_wp2_with fail;refine(Lm _ _ _ _ _ G1.o G2.o).mono ?_;rintro e w2 ⟨rfl,hw2⟩;have b2:Below (w.alloc (.cells #[.slice aa R.length ca,.slice ab C.length cb] 85)).heap.size (w.alloc (.cells #[.slice aa R.length ca,.slice ab C.length cb] 85)) w2:=by rw[hw2];exact Below.qab _ _
 rw[aR.o];clear hw2;have ej:=Z (cN.o.qaa b2 (A2 _));have fX:=Z (iJ.o.keep b2);have xf:=Z (G1.o.keep b2);have nX:=Z (G2.o.keep b2);have mA:w.heap.size<w2.heap.size:=by have:=b2.size;rw[e9.o]at this;omega
 clear G1 G2 cN iJ e9 b2;have k0:w2.cell? ⟨w.heap.size,0,none⟩=some (.slice aa R.length ca):=fX.o.cell 0;have k1:w2.cell? ⟨w.heap.size,1,none⟩=some (.slice ab C.length cb):=fX.o.cell 1;go_wp2_with fail;refine(KN R.length C.length _ J J).mono ?_;rintro e w3 ⟨v3,rfl,o3,b3⟩;obtain⟨G,cap,rfl,hG,hcapG,hGs,-⟩:=o3.qac (by simp[BJ];omega);have iA:(BJ R.length C.length).length=R.length:=by simp[BJ]
 rw[iA]at o3 hcapG⊢;have cY:=Z o3;have bN:=Z b3;have s3:w2.heap.size≤w3.heap.size:=b3.size;clear o3 b3 iA k0 k1;go_wp2;go_loopw [24] (fun i wr=>∃(k:Nat)(g:I),k≤R.length∧i=.int .i64 k∧Hid (FN R.length C.length k 0 g)∧Ag 32 (Ag 3 Ap) (Iv w2.heap.size w3.heap.size) wr (.slice (some ⟨G,0,none⟩) R.length cap) g∧Below w2.heap.size w2 wr∧w3.heap.size≤wr.heap.size) (fun i _=>R.length-(intOf i).toNat);exact⟨0,_,A7 _,rfl,P6 _ _,cY.o,bN.o,A2 _⟩;clear cY bN;obtain⟨k,g,hk,rfl,Hg,aB,aA,aM⟩:=hrel;obtain⟨wo,rfl⟩:∃wo:World,wo=wr:=⟨_,rfl⟩;by_cases aF:k<R.length
 ·obtain⟨aD,aj,-⟩:=Hg.o.1.row aF;obtain⟨q,cq,aH,-,hSq,hqG,dj,hx,-,ai⟩:=AV aB aD J;rw[aj]at aH;have aC:=Z aB;have dM:decide ((k:Int)<(R.length:Int))=true:=by simp;omega
  have az:=Z aA;clear aB aD hx ai aA;go_wp2;clear aH;go_loopw [32] (fun i wr=>∃(j:Nat)(g:I),j≤C.length∧i=.int .i64 j∧Hid (FN R.length C.length k j g)∧Ag 32 (Ag 3 Ap) (Iv w2.heap.size w3.heap.size) wr (.slice (some ⟨G,0,none⟩) R.length cap) g∧Below w2.heap.size w2 wr∧w3.heap.size≤wr.heap.size) (fun i _=>C.length-(intOf i).toNat);exact⟨0,g,A7 _,rfl,Hg,aC.o,az.o,aM⟩;clear aC az aM aj Hg;obtain⟨j,g',hj,rfl,Hg,aB,aA,aM⟩:=hrel;obtain⟨wi,rfl⟩:∃wi:World,wi=wr:=⟨_,rfl⟩;by_cases hltj:j<C.length
  ·obtain⟨aD,aj,-⟩:=Hg.o.1.row aF;obtain⟨q,cq,aH,-,hSq,hqG,dj,hx,-,ai⟩:=AV aB aD J;obtain⟨⟨o,kv⟩,g8⟩:=hx j J;have bq:=Z (ai wi (fun _ _=>rfl) j (-1) J (Cc.small Jq Jq));have fr:=Z (Hg.o.step aF hltj);have be:=Z (aA.setCell (p:=⟨q,j,none⟩) hSq.1 (.int .i64 (-1)));rw[aj]at aH;have hdj:decide ((j:Int)<(C.length:Int))=true:=by simp;omega
   clear aB aD aj hx ai aA dj;go_wp2;go_roundw;exact⟨j+1,_,J,by go_num,fr,bq.o,be.o,by rw[As];exact aM⟩;exact Jv
  ·have hdj:decide ((j:Int)<(C.length:Int))=false:=by simp;omega
   have rD:j=C.length:=J;have fr:=Z (show FN R.length C.length (k+1) 0 g' from by have:=Hg.o;rw[rD]at this;exact this.next);have aC:=Z aB;clear aB rD;go_wp2;go_roundw;exact⟨k+1,g',J,by go_num,fr,aC.o,aA,aM⟩;exact Jv
 ·have lU:k=R.length:=J;have hg:g=EE R.length C.length:=by have:=Hg.o;rw[lU]at this;exact this.done
  have aC:=Z (show Ag 32 (Ag 3 Ap) (Iv w2.heap.size wo.heap.size) wo (.slice (some ⟨G,0,none⟩) R.length cap) (EE R.length C.length)from by
   rw[←hg];exact(Ab (Ab A8)).mono (fun b hb=>⟨hb.1,Aa hb.2 aM⟩) aB)
  have az:=Z aA;have dM:decide ((k:Int)<(R.length:Int))=false:=by simp;omega
  clear aB aA hg Hg lU;go_wp2
  go_loopg [4] (R.length*C.length) (fun gk s4 wr=>∃m:I,Hid (CO R.length C.length m)∧Hid (U2 m≤gk)∧Hid (D=J1 R C gk m)∧Ag 32 (Ag 3 Ap) (Iv w2.heap.size wr.heap.size) wr s4 m∧Below w2.heap.size w2 wr)
  case atStart=>exact⟨_,H0 _ _,Nat.le_of_eq (Xg _ _),HD.o,aC.o,az.o⟩
  clear aC az HD;obtain⟨m,Hm,Hu,HD,aB,aA⟩:=hrel;obtain⟨wi,rfl⟩:∃wi:World,wi=wr:=⟨_,rfl⟩;have bF:m.length≤R.length:=Nat.le_of_eq Hm.o.1;have hml2:R.length≤m.length:=Nat.le_of_eq Hm.o.1.symm;have rE:m.length≤5:=J;obtain⟨g4,cap4,rfl,-⟩:=aB.qac J;have aC:=Z aB;have az:=Z aA;have iJ:=Z (fX.o.keep aA);have hsi:w2.heap.size≤wi.heap.size:=aA.size;have k0:wi.cell? ⟨w.heap.size,0,none⟩=some (.slice aa R.length ca):=iJ.o.cell 0;clear aB aA;go_wp2_with fail;refine(UG _ _ R m _ (xf.o.keep az.o) aC.o.qag bF rE).mono ?_;rintro e w4 ⟨v4,rfl,o4,b4⟩;obtain⟨p1,p2,p3,rfl⟩:=o4.shape;have eN:=Z b4;have l7:wi.heap.size≤w4.heap.size:=b4.size;have u5:=Z (iJ.o.keep b4);have fQ:=Z o4;have mh:=Z (az.o.qaa b4 (A2 _));clear o4 b4 k0;cases hp:D3 R m
  ·have Hn:=Z (show D=none from by rw[HD.o];exact Lf (US hp));have bf:=ej.o.qaa mh.o (A2 _);clear hp;go_wp2;rw[Hn.o]
   go_ret2
   exact⟨_,rfl,Ag.nil _ _ _ _,bf⟩
  obtain⟨A,hA⟩:∃A,A=ES R m:=⟨_,rfl⟩;have oO:=(Kl Hm.o hp).1;have g6:=fQ.o;rw[PM hp,←hA]at g6;rw[←hA]at oO;have fQ:=Z g6;have rF:=Z oO;have Hp:=Z hp;have HA:=Z hA;have HtA:=Z (oO.tr J);have hAt:(tr A).length=C.length:=HtA.o.1;have fm:A.length=R.length:=oO.1;obtain⟨g5,cap5,he5,-⟩:=g6.qac J;have fH:w4.cell? ⟨w.heap.size,1,none⟩=some (.slice ab C.length cb):=u5.o.cell 1;have qy:(tr A).length≤C.length:=Nat.le_of_eq hAt;have ht5:(tr A).length≤5:=J;clear g6 oO hA he5 hAt fm
  go_upto_region 16 with(fail)
  go_cut [9,10] (fun s9 s10 wx=>∃v9,s9=v9∧s10=.bool (D3 C (tr A))∧Hid (Ag 32 (Ag 3 Ap) (Iv w4.heap.size wx.heap.size) wx v9 (Uo C (tr A)))∧Hid (Below w4.heap.size w4 wx))
  case first=>
   go_region_with (first|(go_at_call 302;refine(UT _ A R.length C.length _ (by exact fQ.o.qag) rF.o J hr5 J hc5).mono ?_;rintro e w5 ⟨v5,rfl,o5,b5⟩;obtain⟨r1,r2,r3,rfl⟩:=o5.shape;have B5:Below w4.heap.size w4 w5:=⟨b5.os,b5.tape,b5.output,b5.size,b5.block⟩;have hk5:=(u5.o.keep B5).cell 1;have HG5:=Z ((nX.o.keep mh.o).keep B5))|(go_at_call 301;refine(UG _ _ C (tr A) _ (by exact HG5.o) (by exact o5.qag) qy ht5).mono ?_;rintro e w6 ⟨v6,rfl,o6,b6⟩;obtain⟨q1,q2,q3,rfl⟩:=o6.shape))
   all_goals go_wp2_with fail
   all_goals go_meet
   all_goals
    refine⟨_,rfl,rfl,?_,?_⟩
    ·have e5:=B5.size;exact(Ab (Ab A8)).mono (fun b hb=>⟨Aj e5 hb.1,hb.2⟩) o6
    ·exact B5.qaa ⟨b6.os,b6.tape,b6.output,b6.size,b6.block⟩ (A2 _)
  case rest=>
   obtain⟨v9,rfl,rfl,sK,Hb9⟩:=hcut;have tO:w4.heap.size≤wc.heap.size:=Hb9.o.size;have pY:=Z (mh.o.qaa Hb9.o (A2 _));cases jj:D3 C (tr A)
   ·have Hn:=Z (show D=none from by rw[HD.o];exact Lf (UE Hp.o (by rw[←HA.o];exact jj)));have bf:=ej.o.qaa pY.o (A2 _);clear jj;go_wp2;rw[Hn.o]
    go_ret2
    exact⟨_,rfl,Ag.nil _ _ _ _,bf⟩
   obtain⟨B,hB⟩:∃B,B=ES C (tr A):=⟨_,rfl⟩;have ud:=(Kl HtA.o jj).1;have xg:=sK.o;rw[PM jj,←hB]at xg;rw[←hB]at ud;have Hs:=Z (show Ip R C m=some (tr B)from by rw[hB,HA.o];exact V6 Hp.o (by rw[←HA.o];exact jj));have HBr:=Z ud;have HG9:=Z xg.qag;obtain⟨g9,cap9,rfl,-⟩:=xg.qac (by have:=ud.1;omega);have ue:=Z (Ag.keep (Ab A8) (Ag.keep (Ab A8) aC.o eN.o (A2 _)) Hb9.o l7);clear jj hB ud xg sK;go_wp2_with fail;refine(UT _ B C.length R.length _ HG9.o HBr.o J hc5 J hr5).mono ?_;rintro e w10 ⟨yr,rfl,o10,b10⟩;have htB:(tr B).length=R.length:=(HBr.o.tr J).1;obtain⟨g10,cap10,rfl,-⟩:=o10.qac J;have rG:=Z (pY.o.qaa b10 (A2 _));have mi:=Z (Ag.keep (Ab A8) ue.o b10 (Aj l7 tO));have hs10:wc.heap.size≤w10.heap.size:=b10.size;have uf:=Z o10;have HtB:=Z htB;clear o10 b10 htB;go_wp2_with fail;refine(Nq _ _ (tr B) m _ uf.o.qag mi.o.qag).mono ?_;rintro e w11 ⟨rfl,b11⟩;have ug:w10.heap.size≤w11.heap.size:=b11.size;have gJ:=Z (rG.o.qaa b11 (A2 _));by_cases he:tr B=m
   ·have Hn:=Z (show D=some m from by rw[HD.o];exact Rl (by rw[Hs.o,he]));have i8:=Z (Ag.keep (Ab A8) mi.o b11 J);rw[decide_eq_true he];have bf:=ej.o.qaa gJ.o (A2 _);clear he b11;go_wp2;rw[Hn.o]
    go_ret2
    exact⟨_,rfl,(Ab (Ab A8)).mono (fun b hb=>⟨by have:=hb.1;omega,by have:=hb.2;omega⟩) i8.o,bf⟩
   ·obtain⟨k',kI,hu',hd',ht'⟩:=Sd J J Hm.o Hu.o Hs.o he;have Hu':=Z hu';have Hd':=Z (HD.o.trans hd');have Ht':=Z ht';have Ho11:=Z (Ag.keep (Ab A8) uf.o b11 (A2 _));rw[decide_eq_false he];clear he hd' hu' ht' b11;go_wp2
    go_roundg k'
    case measure=>exact kI
    case rel=>exact⟨tr B,Ht',Hu',Hd',(Ab (Ab A8)).mono (fun b hb=>⟨by have:=hb.1;omega,by have:=hb.2;omega⟩) Ho11.o,gJ.o⟩
theorem CO.bd(h:CO r c g)(hy:y<r)(hx:x<c):-1≤AJ g y x∧AJ g y x≤1:=by
 obtain⟨-,h2,h3⟩:=h.row hy;exact h3 _ (A4 (BO 0 (l:=g.getD y []) (i:=x) J))
theorem Ax.qap(h:Ax r c g):CO r c g:=⟨h.1,fun row hr=>⟨(h.2 row hr).1,fun x hx=>by have:=(h.2 row hr).2 x hx;omega⟩⟩
def Vk(w:World)(b off r c:Nat)(m:I):Prop:=∀y,y<r→∃br offr cpr,(∀w',Below w.heap.size w w'→w'.cell? ⟨b,off+y,none⟩=some (.slice (some ⟨br,offr,none⟩) c cpr))∧∀x,x<c→∀w',Below w.heap.size w w'→w'.cell? ⟨br,offr+x,none⟩=some (.int .i64 (AJ m y x))
theorem AI.qaw{v:Value}(h:AI w v m)(hs:CO r c m)(hr:1≤r)(hc:1≤c):∃b off cp,v=.slice (some ⟨b,off,none⟩) r cp∧b<w.heap.size∧Vk w b off r c m:=by
 have bF:=hs.1;obtain⟨b,off,cp,rfl,hb,-⟩:=h.qac J;refine⟨b,off,cp,by rw[bF],hb,fun y hy=>?_⟩;obtain⟨aD,aj,-⟩:=hs.row hy;obtain⟨u,aW,hu⟩:=Sl.at h aD;have hu:Au w u (m.getD y []):=hu;obtain⟨br,offr,cpr,rfl,dL,-⟩:=hu.qac J;refine⟨br,offr,cpr,fun w' hw=>by rw[hw.cell (p:=⟨b,off+y,none⟩) hb,aW,aj],fun x hx w' hw=>?_⟩;obtain⟨z,hz⟩:∃z,(m.getD y [])[x]? =some z:=⟨_,A3 J⟩;rw[hw.cell (p:=⟨br,offr+x,none⟩) dL,Au.at hu hz];unfold AJ;rw[List.getD_eq_getElem?_getD (l:=m.getD y []),hz];rfl
theorem Vk.keep{w2:World}{b off:Nat}(h:Vk w b off r c m)(hb:Below w.heap.size w w2):Vk w2 b off r c m:=fun y hy=>by
 obtain⟨br,offr,cpr,h1,h2⟩:=h y hy;exact⟨br,offr,cpr,fun w' hw=>h1 w' (hb.qaa hw (A2 _)),fun x hx w' hw=>h2 x hx w' (hb.qaa hw (A2 _))⟩

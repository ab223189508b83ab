/- Base. -/
import Derived.Test.YthmocomfjgmjoaaGreatDoorQ02
namespace Go.Proofs.YthmocomfjgmjoaaGreatDoor
variable {C:Nat→Int}{P:List Nat}{R:Nat→Int}{b c:Nat}{cols:U}{α:Type}{d:α}{dx dy:Int}{h:I}{i i0 j j0:Nat}{l left:U}{p:Nat}{row:U}{u:Nat→Nat→Int}{v:Int}{w:U}{x:Nat}{xs:U}{y:Nat}{ys:U}
theorem B7{l:List α}{x:α}(h:l[i]? =some x):l.getD i d=x:=by rw[List.getD_eq_getElem?_getD,h];rfl
theorem Gk{l:List α}(h:l.length≤i):l.getD i d=d:=by rw[List.getD_eq_getElem?_getD,Am h];rfl
theorem JL{l:List α}{v:α}(h:i<l.length):(l.set i v).getD i d=v:=B7 (List.getElem?_set_self h)
theorem RA{l:List α}{v:α}(h:i≠j):(l.set i v).getD j d=l.getD j d:=by rw[List.getD_eq_getElem?_getD,List.getElem?_set_ne h,←List.getD_eq_getElem?_getD]
theorem BO{l:List α}(d:α)(h:i<l.length):l[i]? =some (l.getD i d):=by rw[A3 h,B7 (A3 h)]
def AJ(m:I)(i j:Nat):Int:=(m.getD i []).getD j 0
def setC(m:I)(y x:Nat)(v:Int):I:=m.set y ((m.getD y []).set x v)
def QX(m:I)(j:Nat):Int:=AP (m.map fun row=>row.getD j 0)
theorem BE(a:Int)(l:U):AP (a::l)=a+AP l:=by
 have h:∀(l:U)(b:Int),l.foldl (· + ·) b=b+l.foldl (· + ·) 0:=by
  intro l;induction l with
  |nil=>intro b;simp
  |cons c l ih=>intro b;rw[List.foldl_cons,List.foldl_cons,ih,ih (0+c)];omega
 show(a::l).foldl (· + ·) 0=a+l.foldl (· + ·) 0;rw[List.foldl_cons,h];omega
theorem Ge:AP []=0:=rfl
theorem XL(a b:U):AP (a++b)=AP a+AP b:=by
 induction a with
 |nil=>rw[List.nil_append,Ge];omega
 |cons x a ih=>rw[List.cons_append,BE,BE,ih];omega
theorem OE{k:Nat}{x:Int}(h:l[k]? =some x)(v:Int):AP (l.set k v)=AP l-x+v:=by
 induction l generalizing k with
 |nil=>simp at h
 |cons a l ih=>
  cases k with
  |zero=>simp at h;subst h;rw[List.set_cons_zero,BE,BE];omega
  |succ k=>rw[List.set_cons_succ,BE,BE,ih (by simpa using h)];omega
theorem MU(h:∀i,l.getD i 0=0):AP l=0:=by
 induction l with
 |nil=>rfl
 |cons a l ih=>
  rw[BE];have h0:=h 0;have:=ih (fun i=>by have:=h (i+1);simpa using this);simp at h0;omega
theorem UR(h:∀i,i<l.length→0≤l.getD i 0∧l.getD i 0≤1):0≤AP l∧AP l≤l.length:=by
 induction l with
 |nil=>exact⟨Int.le_refl _,by rw[Ge];exact Int.natCast_nonneg _⟩
 |cons a l ih=>
  have h0:=h 0 Jj;have:=ih (fun i hi=>by have:=h (i+1) (by simpa using hi);simpa using this);simp at h0;rw[BE,An];omega
theorem UK{a b:U}(hl:a.length=b.length):∀{k:Nat},(∀i,i<k→a.getD i 0=b.getD i 0)→(∀i,k≤i→b.getD i 0=0)→(∀i,i<a.length→0≤a.getD i 0∧a.getD i 0≤1)→k<a.length→
  (a.getD k 0=0→0≤AP a-AP b∧AP a-AP b≤(a.length:Int)-k-1)∧(a.getD k 0=1→1≤AP a-AP b):=by
 induction a generalizing b with
 |nil=>intro k _ _ _ hk;simp at hk
 |cons x a ih=>
  cases b with
  |nil=>simp at hl
  |cons y b=>
   intro k h1 h2 h3 hk;have hl:a.length=b.length:=by simpa using hl
   have eC:∀i,i<a.length→0≤a.getD i 0∧a.getD i 0≤1:=fun i hi=>by
    have:=h3 (i+1) (by simpa using hi);simpa using this
   rw[BE,BE,An];cases k with
   |zero=>
    have e0:=h2 0 (A2 _);simp at e0;have ez:AP b=0:=MU fun i=>by have:=h2 (i+1) (A7 _);simpa using this
    have hb:=UR eC;constructor
    ·intro hx;simp at hx;omega
    ·intro hx;simp at hx;omega
   |succ k=>
    have e0:=h1 0 (Nat.succ_pos _);simp at e0;have:=@ih b hl k (fun i hi=>by have:=h1 (i+1) J;simpa using this) (fun i hi=>by have:=h2 (i+1) J;simpa using this) eC (by simpa using hk);constructor
    ·intro hx;have:=this.1 (by simpa using hx);omega
    ·intro hx;have:=this.2 (by simpa using hx);omega
theorem CM{m:I}{r:Nat}(h:Ax r c m)(hy:y<r):m[y]? =some (m.getD y [])∧(m.getD y []).length=c:=by
 obtain⟨row,hr,hl,-⟩:=h.row hy;rw[B7 hr];exact⟨hr,hl⟩
theorem AS{m:I}{r:Nat}(h:Ax r c m)(i j:Nat):0≤AJ m i j∧AJ m i j≤1:=by
 unfold AJ;by_cases hi:i<r
 ·obtain⟨row,hr,hl,hb⟩:=h.row hi;rw[B7 hr];by_cases hj:j<row.length
  ·have:=hb _ (List.getElem_mem hj);rw[B7 (A3 hj)];exact this
  ·rw[Gk J];omega
 ·rw[Gk (l:=m) (by rw[h.1];omega)];exact⟨Int.le_refl _,Jj⟩
theorem EA{m:I}{r:Nat}(h:Ax r c m)(hy:y<r)(h0:0≤v)(h1:v≤1):Ax r c (setC m y x v):=h.set (CM h hy).1 h0 h1
theorem RL{m:I}{r:Nat}(h:Ax r c m)(hy:y<r)(v:Int)(i:Nat):(setC m y x v).getD i []=if i=y then(m.getD y []).set x v else m.getD i []:=by
 unfold setC;have lV:y<m.length:=by rw[h.1];exact hy
 by_cases hi:i=y
 ·subst hi;rw[if_pos rfl,JL lV]
 ·rw[if_neg hi,RA J]
theorem H8{m:I}{r:Nat}(h:Ax r c m)(hy:y<r)(hx:x<c)(v:Int)(i j:Nat):AJ (setC m y x v) i j=if i=y∧j=x then v else AJ m i j:=by
 unfold AJ;rw[RL h hy];have hl:=(CM h hy).2;by_cases hi:i=y
 ·subst hi;rw[if_pos rfl];by_cases hj:j=x
  ·subst hj;rw[if_pos ⟨rfl,rfl⟩,JL J]
  ·rw[if_neg (fun h=>hj h.2),RA J]
 ·rw[if_neg hi,if_neg (fun h=>hi h.1)]
theorem A0S{m:I}{r:Nat}(h:Ax r c m)(hy:y<r)(hx:x<c)(uh:0≤v)(ui:v≤1)(hz:AJ m y x=0):setC (setC m y x v) y x 0=m:=by
 have h2:=EA (x:=x) h hy uh ui;refine(EA h2 hy Jq Jq).ext h fun i j hi hj=>?_;show AJ _ i j=AJ m i j;rw[H8 h2 hy hx,H8 h hy hx];by_cases he:i=y∧j=x
 ·rw[if_pos he,he.1,he.2,hz]
 ·rw[if_neg he,if_neg he]
theorem Lk{m:I}{r:Nat}(_h:Ax r c m):∀i,(m.map fun row=>row.getD j 0).getD i 0=AJ m i j:=by
 intro i;unfold AJ;cases hi:m[i]? with
 |none=>
  have:=List.getElem?_eq_none_iff.1 hi;rw[Gk (by rw[Ay];exact this),Gk (l:=m) this,Gk Jj]
 |some row=>rw[B7 (l:=m) hi,B7 (x:=row.getD j 0)];rw[Ak,hi];rfl
theorem A38{m:I}{r:Nat}(h:Ax r c m)(hy:y<r)(hx:x<c)(v:Int)(j:Nat):QX (setC m y x v) j=if j=x then QX m j-AJ m y x+v else QX m j:=by
 unfold QX setC;rw[List.map_set];have aD:=CM h hy;have e:(m.map fun row=>row.getD j 0)[y]? =some (AJ m y j):=by
  rw[Ak,aD.1];rfl
 rw[OE e];by_cases hj:j=x
 ·subst hj;rw[if_pos rfl,JL J]
 ·rw[if_neg hj,RA J];unfold AJ;omega
def A3U(g m:I)(y x:Nat):Prop:=∀i j,(i<y∨i=y∧j<x)→AJ g i j=AJ m i j
def YB(r c:Nat)(a b:I):Prop:=∃y x,y<r∧x<c∧A3U a b y x∧AJ a y x<AJ b y x
def OI(r c:Nat)(k:Nat→Nat→Int→U→I→List I)(y x:Nat)(BD:Int)(left:U)(m:I):List I:=
 (if BD≤(c:Int)-x-1∧left.getD x 0≤(r:Int)-y-1 then k y (x+1) BD left m else[])++
 (if 0<BD∧0<left.getD x 0 then k y (x+1) (BD-1) (left.set x (left.getD x 0-1)) (setC m y x 1)else[])
def QJ(xs:U)(r c:Nat):Nat→Nat→Nat→Int→U→I→List I
 |0,_,_,_,_,_=>[]
 |f+1,y,x,BD,left,m=>
  if x=c then(if 0<BD then[]else if y+1=r then[m]else OI r c (QJ xs r c f) (y+1) 0 (xs.getD (y+1) 0) left m)
  else OI r c (QJ xs r c f) y x BD left m
structure Ke(xs ys:U)(r c y x:Nat)(BD:Int)(left:U)(m:I):Prop where
 sh:Ax r c m
 zero:∀i j,(y<i∨i=y∧x≤j)→AJ m i j=0
 rows:∀i,i<y→AP (m.getD i [])=xs.getD i 0
 needE:BD=xs.getD y 0-AP (m.getD y [])
 ll:left.length=c
 leftE:∀j,j<c→left.getD j 0=ys.getD j 0-QX m j
 need0:0≤BD∧BD≤(c:Int)-x
 left0:∀j,j<c→0≤left.getD j 0∧left.getD j 0≤(r:Int)-y-(if j<x then 1 else 0)
 hx:∀i,i<r→0≤xs.getD i 0∧xs.getD i 0≤c
def Da(xs ys:U)(r c:Nat)(g:I):Prop:=Ax r c g∧(∀i,i<r→AP (g.getD i [])=xs.getD i 0)∧∀j,j<c→QX g j=ys.getD j 0
def A2D(xs ys:U)(r c y x:Nat)(m g:I):Prop:=Da xs ys r c g∧A3U g m y x
theorem Ke.qbp{r:Nat}{BD:Int}{m:I}(h:Ke xs ys r c y x BD left m)(hn:BD≤(c:Int)-x-1)(hl:left.getD x 0≤(r:Int)-y-1):Ke xs ys r c y (x+1) BD left m:=by
 refine⟨h.sh,fun i j hij=>h.zero i j J,h.rows,h.needE,h.ll,h.leftE,⟨h.need0.1,by have:=h.need0;push_cast;omega⟩,fun j hj=>?_,h.hx⟩;obtain⟨h1,h2⟩:=h.left0 j hj;refine⟨h1,?_⟩;by_cases hjx:j<x
 ·rw[if_pos hjx]at h2;rw[if_pos J];exact h2
 ·by_cases rD:j=x
  ·subst rD;rw[if_pos J];exact hl
  ·rw[if_neg hjx]at h2;rw[if_neg J];exact h2
theorem Ke.qbn{r:Nat}{BD:Int}{m:I}(h:Ke xs ys r c y x BD left m)(hy:y<r)(hx:x<c)(hn:0<BD)(hl:0<left.getD x 0):
  Ke xs ys r c y (x+1) (BD-1) (left.set x (left.getD x 0-1)) (setC m y x 1):=by
 have hz:AJ m y x=0:=h.zero y x (.inr ⟨rfl,A2 _⟩);have hr:=CM h.sh hy;refine⟨EA h.sh hy Jq Jq,fun i j hij=>?_,fun i hi=>?_,?_,by rw[List.length_set,h.ll],fun j hj=>?_,⟨J,by have:=h.need0;push_cast;omega⟩,fun j hj=>?_,h.hx⟩
 ·rw[H8 h.sh hy hx,if_neg J];exact h.zero i j J
 ·rw[RL h.sh hy,if_neg J];exact h.rows i hi
 ·rw[RL h.sh hy,if_pos rfl];have e:(m.getD y [])[x]? =some (AJ m y x):=by
   exact BO 0 J
  rw[OE e,hz];have:=h.needE;omega
 ·rw[A38 h.sh hy hx,hz];have:=h.leftE j hj;by_cases hjx:j=x
  ·subst hjx;rw[if_pos rfl,JL (by rw[h.ll];exact hj)];omega
  ·rw[if_neg hjx,RA J];exact this
 ·obtain⟨h1,h2⟩:=h.left0 j hj;by_cases hjx:j=x
  ·subst hjx;rw[JL (by rw[h.ll];exact hj)];rw[if_pos J];rw[if_neg J]at h2;omega
  ·rw[RA J];refine⟨h1,?_⟩;by_cases gY:j<x
   ·rw[if_pos gY]at h2;rw[if_pos J];exact h2
   ·rw[if_neg gY]at h2;rw[if_neg J];exact h2
theorem Ke.next{r:Nat}{BD:Int}{m:I}(h:Ke xs ys r c y c BD left m)(hy:y+1<r):Ke xs ys r c (y+1) 0 (xs.getD (y+1) 0) left m:=by
 have h0:=h.need0;refine⟨h.sh,fun i j hij=>h.zero i j J,fun i hi=>?_,?_,h.ll,h.leftE,?_,fun j hj=>?_,h.hx⟩
 ·by_cases hiy:i<y
  ·exact h.rows i hiy
  ·obtain rfl:i=y:=J;have:=h.needE;omega
 ·have:AP (m.getD (y+1) [])=0:=MU fun j=>h.zero (y+1) j (.inl J);omega
 ·have:=h.hx (y+1) hy;exact⟨this.1,by push_cast;omega⟩
 ·obtain⟨h1,h2⟩:=h.left0 j hj;rw[if_pos hj]at h2;exact⟨h1,by rw[if_neg J];push_cast;omega⟩
theorem Da.guard{r:Nat}{BD:Int}{m g:I}(h:Ke xs ys r c y x BD left m)(hy:y<r)(hx:x<c)(hg:A2D xs ys r c y x m g):
  (AJ g y x=0→BD≤(c:Int)-x-1∧left.getD x 0≤(r:Int)-y-1)∧(AJ g y x=1→0<BD∧0<left.getD x 0):=by
 obtain⟨⟨gs,gr,gc⟩,ga⟩:=hg;have aD:=CM h.sh hy;have grow:=CM gs hy;have t1:=UK (a:=g.getD y []) (b:=m.getD y []) (by rw[aD.2,grow.2]) (k:=x) (fun i hi=>ga y i (.inr ⟨rfl,hi⟩)) (fun i hi=>h.zero y i (.inr ⟨rfl,hi⟩)) (fun i _=>AS gs y i) (by rw[grow.2];exact hx);have t2:=UK (a:=g.map fun row=>row.getD x 0) (b:=m.map fun row=>row.getD x 0) (by rw[Ay,Ay,gs.1,h.sh.1]) (k:=y) (fun i hi=>by rw[Lk gs,Lk h.sh];exact ga i x (.inl hi))
  (fun i hi=>by rw[Lk h.sh];exact h.zero i x J) (fun i _=>by rw[Lk gs];exact AS gs i x) (by rw[Ay,gs.1];exact hy)
 rw[Lk gs,Ay,gs.1]at t2;rw[grow.2]at t1;have e1:=gr y hy;have e2:AP (g.map fun row=>row.getD x 0)=ys.getD x 0:=gc x hx;have e3:=h.needE;have e4:left.getD x 0=ys.getD x 0-AP (m.map fun row=>row.getD x 0):=h.leftE x hx;constructor
 ·intro hz;have a1:=t1.1 hz;have a2:=t2.1 hz;omega
 ·intro hz;have a1:=t1.2 hz;have a2:=t2.2 hz;omega
theorem Us{r:Nat}{BD:Int}{m:I}{k:Nat→Nat→Int→U→I→List I}(h:Ke xs ys r c y x BD left m)(hy:y<r)(hx:x<c)
  (hk:∀BD left m,Ke xs ys r c y (x+1) BD left m→∀g,g∈k y (x+1) BD left m↔A2D xs ys r c y (x+1) m g)(g:I):
  g∈OI r c k y x BD left m↔A2D xs ys r c y x m g:=by
 have hz:AJ m y x=0:=h.zero y x (.inr ⟨rfl,A2 _⟩);unfold OI;rw[List.mem_append];constructor
 ·rintro(hm|hm)
  ·split at hm
   ·rename_i hc
    have:=(hk _ _ _ (h.qbp hc.1 hc.2) g).1 hm;exact⟨this.1,fun i j hij=>this.2 i j J⟩
   ·cases hm
  ·split at hm
   ·rename_i hc
    have:=(hk _ _ _ (h.qbn hy hx hc.1 hc.2) g).1 hm;refine⟨this.1,fun i j hij=>?_⟩;have e:=this.2 i j J;rw[H8 h.sh hy hx,if_neg J]at e;exact e
   ·cases hm
 ·intro hg;have hgu:=Da.guard h hy hx hg;have hb:=AS hg.1.1 y x;have vD:AJ g y x=0∨AJ g y x=1:=J;rcases vD with h0|h1
  ·left;have hc:=hgu.1 h0;rw[if_pos hc];refine(hk _ _ _ (h.qbp hc.1 hc.2) g).2 ⟨hg.1,fun i j hij=>?_⟩;by_cases he:i=y∧j=x
   ·rw[he.1,he.2,h0,hz]
   ·exact hg.2 i j J
  ·right;have hc:=hgu.2 h1;rw[if_pos hc];refine(hk _ _ _ (h.qbn hy hx hc.1 hc.2) g).2 ⟨hg.1,fun i j hij=>?_⟩;rw[H8 h.sh hy hx];by_cases he:i=y∧j=x
   ·rw[if_pos he,he.1,he.2,h1]
   ·rw[if_neg he];exact hg.2 i j J
theorem Vl(xs ys:U)(r c:Nat)(f:Nat):∀(y x:Nat)(BD:Int)(left:U)(m:I),Ke xs ys r c y x BD left m→y<r→x≤c→1≤c→r*(c+1)≤f+(y*(c+1)+x)→
  ∀g,g∈QJ xs r c f y x BD left m↔A2D xs ys r c y x m g:=by
 induction f with
 |zero=>
  intro y x BD left m _ hy hx _ hf;have h1:(y+1)*(c+1)≤r*(c+1):=Nat.mul_le_mul_right _ hy;rw[Nat.succ_mul]at h1;omega
 |succ f ih=>
  intro y x BD left m h hy hx hc1 hf g;rw[QJ];by_cases hxc:x=c
  ·subst hxc;rw[if_pos rfl];have h0:=h.need0;rw[if_neg J];by_cases gV:y+1=r
   ·rw[if_pos gV,List.mem_singleton];constructor
    ·rintro rfl;refine⟨⟨h.sh,fun i hi=>?_,fun j hj=>?_⟩,fun _ _ _=>rfl⟩
     ·by_cases hiy:i<y
      ·exact h.rows i hiy
      ·obtain rfl:i=y:=J;have:=h.needE;omega
     ·obtain⟨h1,h2⟩:=h.left0 j hj;rw[if_pos hj]at h2;have:=h.leftE j hj;omega
    ·rintro⟨⟨gs,-⟩,ga⟩;exact gs.ext h.sh fun i j hi hj=>ga i j J
   ·rw[if_neg gV];have dU:y+1<r:=J;have xl:r*(x+1)≤f+((y+1)*(x+1)+(0+1)):=by rw[Nat.succ_mul];omega
    rw[Us (h.next dU) dU J (fun eD left' m' hi=>ih (y+1) (0+1) eD left' m' hi dU J hc1 xl) g];refine⟨fun hg=>⟨hg.1,fun i j hij=>?_⟩,fun hg=>⟨hg.1,fun i j hij=>?_⟩⟩
    ·by_cases hjx:i<y+1
     ·exact hg.2 i j (.inl hjx)
     ·omega
    ·by_cases hjx:i<y
     ·exact hg.2 i j (.inl hjx)
     ·obtain rfl:i=y:=J;by_cases hjc:j<x
      ·exact hg.2 i j (.inr ⟨rfl,hjc⟩)
      ·unfold AJ;rw[Gk (l:=g.getD i []) (by rw[(CM hg.1.1 hy).2];omega),Gk (l:=m.getD i []) (by rw[(CM h.sh hy).2];omega)]
  ·rw[if_neg hxc];exact Us h hy J (fun eD left' m' hi=>ih y (x+1) eD left' m' hi hy J hc1 J) g
theorem Ot{r:Nat}{BD:Int}{m:I}{k:Nat→Nat→Int→U→I→List I}(h:Ke xs ys r c y x BD left m)(hy:y<r)(hx:x<c)
  (hk:∀BD left m,Ke xs ys r c y (x+1) BD left m→∀g,g∈k y (x+1) BD left m↔A2D xs ys r c y (x+1) m g)
  (hs:∀BD left m,Ke xs ys r c y (x+1) BD left m→(k y (x+1) BD left m).Pairwise (YB r c)):(OI r c k y x BD left m).Pairwise (YB r c):=by
 unfold OI;rw[List.pairwise_append];refine⟨?_,?_,?_⟩
 ·split
  ·rename_i hc;exact hs _ _ _ (h.qbp hc.1 hc.2)
  ·exact List.Pairwise.nil
 ·split
  ·rename_i hc;exact hs _ _ _ (h.qbn hy hx hc.1 hc.2)
  ·exact List.Pairwise.nil
 ·intro a ha b hb
  split at ha
  ·split at hb
   ·rename_i hc1 cM
    have h1:=(hk _ _ _ (h.qbp hc1.1 hc1.2) a).1 ha;have h2:=(hk _ _ _ (h.qbn hy hx cM.1 cM.2) b).1 hb;refine⟨y,x,hy,hx,fun i j hij=>?_,?_⟩
    ·rw[h1.2 i j J,h2.2 i j J,H8 h.sh hy hx,if_neg J]
    ·rw[h1.2 y x J,h2.2 y x J,H8 h.sh hy hx,if_pos ⟨rfl,rfl⟩,h.zero y x J];decide
   ·cases hb
  ·cases ha
theorem ZM(xs ys:U)(r c:Nat)(f:Nat):∀(y x:Nat)(BD:Int)(left:U)(m:I),Ke xs ys r c y x BD left m→y<r→x≤c→1≤c→r*(c+1)≤f+(y*(c+1)+x)→
  (QJ xs r c f y x BD left m).Pairwise (YB r c):=by
 induction f with
 |zero=>intro y x BD left m _ _ _ _ _;exact List.Pairwise.nil
 |succ f ih=>
  intro y x BD left m h hy hx hc1 hf;rw[QJ];by_cases hxc:x=c
  ·subst hxc;rw[if_pos rfl];have h0:=h.need0;rw[if_neg J];by_cases gV:y+1=r
   ·rw[if_pos gV];exact List.pairwise_singleton _ _
   ·rw[if_neg gV];have dU:y+1<r:=J;have xl:r*(x+1)≤f+((y+1)*(x+1)+(0+1)):=by rw[Nat.succ_mul];omega
    exact Ot (h.next dU) dU J (fun eD left' m' hi=>Vl xs ys r x f (y+1) (0+1) eD left' m' hi dU J hc1 xl) (fun eD left' m' hi=>ih (y+1) (0+1) eD left' m' hi dU J hc1 xl)
  ·rw[if_neg hxc];exact Ot h hy J (fun eD left' m' hi=>Vl xs ys r c f y (x+1) eD left' m' hi hy J hc1 J) (fun eD left' m' hi=>ih y (x+1) eD left' m' hi hy J hc1 J)
theorem A0g(xs:U)(r c:Nat)(f:Nat):∀(y x:Nat)(BD:Int)(left:U)(m:I),(QJ xs r c f y x BD left m).length≤2^f:=by
 induction f with
 |zero=>intro y x BD left m;simp[QJ]
 |succ f ih=>
  have key:∀(y x:Nat)(BD:Int)(left:U)(m:I),(OI r c (QJ xs r c f) y x BD left m).length≤2^(f+1):=by
   intro y x BD left m;unfold OI;rw[Ad,Nat.pow_succ];have h1:(if BD≤(c:Int)-x-1∧left.getD x 0≤(r:Int)-y-1 then QJ xs r c f y (x+1) BD left m else[]).length≤2^f:=by
    split
    ·exact ih _ _ _ _ _
    ·simp
   have h2:(if 0<BD∧0<left.getD x 0 then QJ xs r c f y (x+1) (BD-1) (left.set x (left.getD x 0-1)) (setC m y x 1)else[]).length≤2^f:=by
    split
    ·exact ih _ _ _ _ _
    ·simp
   omega
  intro y x BD left m;rw[QJ];have hp:1≤2^(f+1):=Nat.one_le_two_pow
  split
  ·split
   ·simp
   ·split
    ·simpa using hp
    ·exact key _ _ _ _ _
  ·exact key _ _ _ _ _
def AT(xs ys:U):Bool:=C1 1 5 xs.length&&C1 1 5 ys.length&&xs.all (C1 0 ys.length)&&ys.all (C1 0 xs.length)&&decide (AP xs=AP ys)
def BB(xs ys:U):List I:=QJ xs xs.length ys.length (xs.length*(ys.length+1)) 0 0 (xs.getD 0 0) ys (BJ xs.length ys.length)
theorem BG(h:AT xs ys=true):1≤xs.length∧xs.length≤5∧1≤ys.length∧ys.length≤5∧(∀i,0≤xs.getD i 0∧xs.getD i 0≤ys.length)∧(∀j,0≤ys.getD j 0∧ys.getD j 0≤xs.length)∧AP xs=AP ys:=by
 unfold AT at h;simp only[Af,Ah,Bz]at h;obtain⟨⟨⟨⟨⟨a1,a2⟩,b1,b2⟩,h3⟩,h4⟩,h5⟩:=h;have key:∀(l:U)(n:Nat),l.all (C1 0 n)=true→∀i,0≤l.getD i 0∧l.getD i 0≤n:=by
  intro l n hl i;rw[List.getD_eq_getElem?_getD];cases hi:l[i]? with
  |none=>simp
  |some a=>
   have:=Ar.1 hl a (A4 hi);rw[Bz]at this;exact this
 exact⟨J,J,J,J,key _ _ h3,key _ _ h4,h5⟩
theorem MR(r c i j:Nat):AJ (BJ r c) i j=0:=by
 unfold AJ BJ;by_cases hi:i<r
 ·rw[B7 (l:=List.replicate r _) (x:=List.replicate c 0) (by rw[List.getElem?_replicate,if_pos hi])];by_cases hj:j<c
  ·exact B7 (by rw[List.getElem?_replicate,if_pos hj])
  ·exact Gk (by rw[List.length_replicate];omega)
 ·rw[Gk (l:=List.replicate r _) (by rw[List.length_replicate];omega)];rfl
theorem A1Z(h:AT xs ys=true):Ke xs ys xs.length ys.length 0 0 (xs.getD 0 0) ys (BJ xs.length ys.length):=by
 obtain⟨h1,h2,h3,h4,h5,h6,h7⟩:=BG h;have an:Ax xs.length ys.length (BJ xs.length ys.length):=JK _ _;refine⟨an,fun i j _=>MR _ _ _ _,fun i hi=>by omega,?_,rfl,fun j hj=>?_,⟨(h5 0).1,by have:=(h5 0).2;push_cast;omega⟩,fun j hj=>⟨(h6 j).1,by rw[if_neg J];have:=(h6 j).2;push_cast;omega⟩,fun i _=>h5 i⟩
 ·rw[MU fun j=>MR _ _ 0 j];omega
 ·have:QX (BJ xs.length ys.length) j=0:=MU fun i=>by rw[Lk an];exact MR _ _ _ _
  omega
theorem Dy(h:AT xs ys=true)(g:I):g∈BB xs ys↔Da xs ys xs.length ys.length g:=by
 obtain⟨h1,h2,h3,h4,-⟩:=BG h;unfold BB;rw[Vl xs ys _ _ _ 0 0 _ _ _ (A1Z h) J J h3 J];exact⟨fun hg=>hg.1,fun hg=>⟨hg,fun i j hij=>by omega⟩⟩
theorem Ma(h:AT xs ys=true):(BB xs ys).Pairwise (YB xs.length ys.length):=by
 obtain⟨h1,h2,h3,h4,-⟩:=BG h;unfold BB;exact ZM xs ys _ _ _ 0 0 _ _ _ (A1Z h) J J h3 J
theorem JJ(xs ys:U):(BB xs ys).length≤2^(xs.length*(ys.length+1)):=A0g _ _ _ _ _ _ _ _ _
def rs:Nat→(Nat→Int)→Int
 |0,_=>0
 |n+1,f=>rs n f+f n
theorem B4{n:Nat}{f g:Nat→Int}(h:∀i,i<n→f i=g i):rs n f=rs n g:=by
 induction n with
 |zero=>rfl
 |succ n ih=>rw[rs,rs,ih (fun i hi=>h i J),h n J]
theorem Fm{n:Nat}{f g:Nat→Int}(h:∀i,i<n→f i≤g i):rs n f≤rs n g:=by
 induction n with
 |zero=>exact Int.le_refl _
 |succ n ih=>rw[rs,rs];have:=ih (fun i hi=>h i J);have:=h n J;omega
theorem DE(n:Nat)(f g:Nat→Int):rs n (fun i=>f i+g i)=rs n f+rs n g:=by
 induction n with
 |zero=>rfl
 |succ n ih=>rw[rs,rs,rs,ih];omega
theorem EX(n:Nat)(f g:Nat→Int):rs n (fun i=>f i-g i)=rs n f-rs n g:=by
 induction n with
 |zero=>rfl
 |succ n ih=>rw[rs,rs,rs,ih];omega
theorem CV(n:Nat):rs n (fun _=>0)=0:=by
 induction n with
 |zero=>rfl
 |succ n ih=>rw[rs,ih];rfl
theorem Ks{n:Nat}{f:Nat→Int}(h:∀i,i<n→f i=0):rs n f=0:=(B4 h).trans (CV n)
theorem Rr(n:Nat)(k:Int):rs n (fun _=>k)=n*k:=by
 induction n with
 |zero=>simp[rs]
 |succ n ih=>rw[rs,ih,Int.natCast_succ,Int.add_mul];omega
theorem A4b(n:Nat)(k:Int)(f:Nat→Int):rs n (fun i=>k*f i)=k*rs n f:=by
 induction n with
 |zero=>simp[rs]
 |succ n ih=>rw[rs,rs,ih,Int.mul_add]
theorem Eb{n:Nat}(hi:i<n)(f:Nat→Int):rs n (fun k=>if k=i then f k else 0)=f i:=by
 induction n with
 |zero=>omega
 |succ n ih=>
  rw[rs];by_cases h:i=n
  ·subst h;rw[if_pos rfl,Ks (fun k hk=>if_neg J)];omega
  ·rw[ih J,if_neg (fun e=>h e.symm)];omega
theorem R3(n m:Nat)(f:Nat→Nat→Int):rs n (fun i=>rs m (fun j=>f i j))=rs m (fun j=>rs n (fun i=>f i j)):=by
 induction n with
 |zero=>rw[rs];exact(CV m).symm
 |succ n ih=>
  rw[rs,ih,←DE];exact B4 fun j _=>by rw[rs]
theorem EL{n:Nat}{f:Nat→Int}(h:∀i,i<n→0≤f i):0≤rs n f:=by
 have:=Fm (n:=n) (f:=fun _=>0) (g:=f) h;rwa[CV]at this
theorem KQ{n:Nat}(hi:i<n){f:Nat→Int}(h:∀i,i<n→0≤f i):f i≤rs n f:=by
 have:=Fm (n:=n) (f:=fun k=>if k=i then f k else 0) (g:=f) (fun k hk=>by split;exact Int.le_refl _;exact h k hk);rwa[Eb hi]at this
theorem A4d{n:Nat}{f:Nat→Int}(h:0<rs n f):∃i,i<n∧0<f i:=by
 apply Classical.byContradiction;intro hn;have:=Fm (n:=n) (f:=f) (g:=fun _=>0) (fun i hi=>by
  apply Classical.byContradiction;intro aF;exact hn ⟨i,hi,J⟩)
 rw[CV]at this;omega
def gc(a b:Bool)(l u:Int):Int:=(if b&&!a then l else 0)-(if a&&!b then u else 0)
def BD(r c:Nat)(R C:Nat→Int)(l u:Nat→Nat→Int)(A B:Nat→Bool):Int:=
 rs r (fun i=>if A i then R i else 0)-rs c (fun j=>if B j then C j else 0)+rs r (fun i=>rs c (fun j=>gc (A i) (B j) (l i j) (u i j)))
def Ex(f:Nat→Nat→Int)(i0 j0:Nat)(v:Int):Nat→Nat→Int:=fun i j=>if i=i0∧j=j0 then v else f i j
theorem A3k(a0 a1 b0 b1:Bool){l u:Int}(h:l≤u):gc a0 b0 l u+gc a1 b1 l u≤gc (a0||a1) (b0||b1) l u+gc (a0&&a1) (b0&&b1) l u:=by
 cases a0<;>cases a1<;>cases b0<;>cases b1<;>simp[gc]<;>omega
theorem A0K(a0 a1 b0 b1:Bool):gc a0 b0 0 0+gc a1 b1 1 1-1≤gc (a0||a1) (b0||b1) 0 1+gc (a0&&a1) (b0&&b1) 0 1:=by
 cases a0<;>cases a1<;>cases b0<;>cases b1<;>decide
theorem Wo{r:Nat}(hi:i0<r)(hj:j0<c):rs r (fun i=>rs c (fun j=>if i=i0∧j=j0 then(1:Int)else 0))=1:=by
 have h1:∀i,i<r→rs c (fun j=>if i=i0∧j=j0 then(1:Int)else 0)=if i=i0 then 1 else 0:=by
  intro i _;by_cases h:i=i0
  ·rw[if_pos h];rw[B4 (g:=fun j=>if j=j0 then(1:Int)else 0) (fun j _=>by simp[h])];exact Eb hj (fun _=>1)
  ·rw[if_neg h];exact Ks fun j _=>if_neg (fun e=>h e.1)
 rw[B4 h1];exact Eb hi (fun _=>1)
theorem ZW{r:Nat}(hi:i0<r)(hj:j0<c){l:Nat→Nat→Int}(hlu:∀i j,i<r→j<c→l i j≤u i j)(hl:l i0 j0=0)(hu:u i0 j0=1)(A0 B0 A1 B1:Nat→Bool):
  BD r c R C l (Ex u i0 j0 0) A0 B0+BD r c R C (Ex l i0 j0 1) u A1 B1-1≤
   BD r c R C l u (fun i=>A0 i||A1 i) (fun j=>B0 j||B1 j)+BD r c R C l u (fun i=>A0 i&&A1 i) (fun j=>B0 j&&B1 j):=by
 unfold BD;have e1:rs r (fun i=>if A0 i then R i else 0)+rs r (fun i=>if A1 i then R i else 0)=rs r (fun i=>if(A0 i||A1 i)then R i else 0)+rs r (fun i=>if(A0 i&&A1 i)then R i else 0):=by
  rw[←DE,←DE];refine B4 fun i _=>?_;cases A0 i<;>cases A1 i<;>simp
 have e2:rs c (fun i=>if B0 i then C i else 0)+rs c (fun i=>if B1 i then C i else 0)=rs c (fun i=>if(B0 i||B1 i)then C i else 0)+rs c (fun i=>if(B0 i&&B1 i)then C i else 0):=by
  rw[←DE,←DE];refine B4 fun i _=>?_;cases B0 i<;>cases B1 i<;>simp
 have e3:=Fm (n:=r) (f:=fun i=>rs c (fun j=>gc (A0 i) (B0 j) (l i j) (Ex u i0 j0 0 i j))+rs c (fun j=>gc (A1 i) (B1 j) (Ex l i0 j0 1 i j) (u i j))-rs c (fun j=>if i=i0∧j=j0 then(1:Int)else 0))
  (g:=fun i=>rs c (fun j=>gc (A0 i||A1 i) (B0 j||B1 j) (l i j) (u i j))+rs c (fun j=>gc (A0 i&&A1 i) (B0 j&&B1 j) (l i j) (u i j))) (fun i hir=>by
    show rs c _+rs c _-rs c _≤rs c _+rs c _;rw[←DE,←DE,←EX];refine Fm fun j hjc=>?_;by_cases h:i=i0∧j=j0
    ·obtain⟨rfl,rfl⟩:=h;have:=A0K (A0 i) (A1 i) (B0 j) (B1 j);simp only[Ex,and_self,if_true,hl,hu];omega
    ·have:=A3k (A0 i) (A1 i) (B0 j) (B1 j) (hlu i j hir hjc);simp only[Ex,if_neg h];omega)
 rw[EX,DE,DE,Wo hi hj]at e3;show _-_+_+(_-_+_)-1≤(_-_+_)+(_-_+_);dsimp only at e1 e2 e3⊢;omega
theorem K3{n:Nat}(hi:i<n){f g:Nat→Int}(h:∀k,k<n→k≠i→f k=g k):rs n f=rs n g-g i+f i:=by
 have h1:=EX n f g;have h2:rs n (fun k=>f k-g k)=rs n (fun k=>if k=i then f k-g k else 0):=B4 fun k hk=>by
  by_cases e:k=i
  ·rw[if_pos e]
  ·rw[if_neg e,h k hk e];omega
 rw[Eb hi (fun k=>f k-g k)]at h2;omega
theorem Ul{r:Nat}(hi:i0<r)(hj:j0<c)(f:Nat→Nat→Int)(v:Int):rs r (fun i=>rs c (fun j=>Ex f i0 j0 v i j))=rs r (fun i=>rs c (fun j=>f i j))-f i0 j0+v:=by
 rw[K3 hi (g:=fun i=>rs c (fun j=>f i j)) (fun k _ aK=>B4 fun j _=>by simp only[Ex];rw[if_neg (fun e=>aK e.1)])];rw[K3 hj (f:=fun j=>Ex f i0 j0 v i0 j) (g:=fun j=>f i0 j) (fun k _ aK=>by simp only[Ex];rw[if_neg (fun e=>aK e.2)])];simp only[Ex,and_self,if_true];omega
theorem A53(r c:Nat)(R C:Nat→Int)(hRC:rs r R=rs c C):∀(n:Nat)(l u:Nat→Nat→Int),(∀i j,i<r→j<c→0≤l i j∧l i j≤u i j∧u i j≤1)→rs r (fun i=>rs c (fun j=>u i j))-rs r (fun i=>rs c (fun j=>l i j))≤n→
  (∃x:Nat→Nat→Int,(∀i j,i<r→j<c→l i j≤x i j∧x i j≤u i j)∧(∀i,i<r→rs c (fun j=>x i j)=R i)∧(∀j,j<c→rs r (fun i=>x i j)=C j))∨∃A B,0<BD r c R C l u A B:=by
 intro n;induction n with
 |zero=>
  intro l u hb hn;have cu:∀i j,i<r→j<c→l i j=u i j:=by
   intro i j hi hj;rw[←EX]at hn;have h0:∀i,i<r→0≤rs c (fun j=>u i j)-rs c (fun j=>l i j):=fun i hi=>by
    have:=Fm (n:=c) (f:=fun j=>l i j) (g:=fun j=>u i j) (fun j hj=>(hb i j hi hj).2.1);omega
   have h1:=KQ hi h0;rw[←EX]at h1;have h2:=KQ hj (f:=fun j=>u i j-l i j) (fun j hj=>by have:=hb i j hi hj;omega);have:=hb i j hi hj;omega
  by_cases hR:∀i,i<r→rs c (fun j=>u i j)=R i
  ·by_cases hC:∀j,j<c→rs r (fun i=>u i j)=C j
   ·exact .inl ⟨u,fun i j hi hj=>⟨(hb i j hi hj).2.1,Int.le_refl _⟩,hR,hC⟩
   ·right;obtain⟨j0,hn⟩:=Classical.not_forall.1 hC;rw[Classical.not_imp]at hn;obtain⟨hj,aK⟩:=hn;by_cases aF:rs r (fun i=>u i j0)<C j0
    ·refine⟨fun _=>true,fun j=>!(j==j0),?_⟩;unfold BD;have e1:rs c (fun j=>if !(j==j0)then C j else 0)=rs c C-C j0+0:=by
      have:=K3 hj (f:=fun j=>if !(j==j0)then C j else 0) (g:=C) (fun k _ aK=>by simp[aK]);simpa using this
     have e2:rs r (fun i=>rs c (fun j=>gc true (!(j==j0)) (l i j) (u i j)))=rs r (fun i=>0-u i j0):=by
      refine B4 fun i _=>?_;rw[←Eb hj (fun j=>0-u i j)];refine B4 fun j _=>?_;by_cases e:j=j0<;>simp[gc,e]
     rw[e1,e2,EX,CV];simp only[if_true];have hRC':rs r (fun i=>R i)=rs c C:=hRC;omega
    ·refine⟨fun _=>false,fun j=>j==j0,?_⟩;unfold BD;have e1:rs c (fun j=>if(j==j0)then C j else 0)=C j0:=by
      rw[←Eb hj C];exact B4 fun j _=>by simp
     have e2:rs r (fun i=>rs c (fun j=>gc false (j==j0) (l i j) (u i j)))=rs r (fun i=>u i j0):=by
      refine B4 fun i hi=>?_;rw[←cu i j0 hi hj,←Eb hj (fun j=>l i j)];refine B4 fun j _=>?_;by_cases e:j=j0<;>simp[gc,e]
     rw[e1,e2];simp only[Bool.false_eq_true,if_false];rw[CV];omega
  ·right;obtain⟨i0,hn⟩:=Classical.not_forall.1 hR;rw[Classical.not_imp]at hn;obtain⟨hi,aK⟩:=hn;by_cases aF:rs c (fun j=>u i0 j)<R i0
   ·refine⟨fun i=>i==i0,fun _=>false,?_⟩;unfold BD;have e1:rs r (fun i=>if(i==i0)then R i else 0)=R i0:=by
     rw[←Eb hi R];exact B4 fun j _=>by simp
    have e2:rs r (fun i=>rs c (fun j=>gc (i==i0) false (l i j) (u i j)))=0-rs c (fun j=>u i0 j):=by
     rw[←Eb hi (fun i=>0-rs c (fun j=>u i j))];refine B4 fun i _=>?_;by_cases e:i=i0
     ·rw[if_pos e,←CV c,←EX];exact B4 fun j _=>by simp[gc,e]
     ·rw[if_neg e];exact Ks fun j _=>by simp[gc,e]
    rw[e1,e2];simp only[Bool.false_eq_true,if_false];rw[CV];omega
   ·refine⟨fun i=>!(i==i0),fun _=>true,?_⟩;unfold BD;have e1:rs r (fun i=>if !(i==i0)then R i else 0)=rs r R-R i0+0:=by
     have:=K3 hi (f:=fun j=>if !(j==i0)then R j else 0) (g:=R) (fun k _ aK=>by simp[aK]);simpa using this
    have e2:rs r (fun i=>rs c (fun j=>gc (!(i==i0)) true (l i j) (u i j)))=rs c (fun j=>u i0 j):=by
     rw[←Eb hi (fun i=>rs c (fun j=>u i j))];refine B4 fun i hi=>?_;by_cases e:i=i0
     ·rw[if_pos e];exact B4 fun j hj=>by rw[←cu i j hi hj];simp[gc,e]
     ·rw[if_neg e];exact Ks fun j _=>by simp[gc,e]
    rw[e1,e2];simp only[if_true];have hRC':rs r R=rs c (fun i=>C i):=hRC;omega
 |succ n ih=>
  intro l u hb hn;by_cases hfree:∃i j,i<r∧j<c∧l i j<u i j
  ·obtain⟨i0,j0,hi,hj,aF⟩:=hfree;have eI:=hb i0 j0 hi hj;have hl:l i0 j0=0:=J;have hu:u i0 j0=1:=J;have f0:=Ul hi hj u 0;have f1:=Ul hi hj l 1;rcases ih l (Ex u i0 j0 0) (fun i j hi hj=>by
     simp only[Ex]
     split
     ·rename_i h;obtain⟨rfl,rfl⟩:=h;omega
     ·exact hb i j hi hj) (by rw[f0];omega)with⟨x,hx,h2,h3⟩|⟨A0,B0,hA⟩
   ·refine .inl ⟨x,fun i j hi hj=>⟨(hx i j hi hj).1,?_⟩,h2,h3⟩;have:=(hx i j hi hj).2;simp only[Ex]at this
    split at this
    ·rename_i h;obtain⟨rfl,rfl⟩:=h;omega
    ·exact this
   rcases ih (Ex l i0 j0 1) u (fun i j hi hj=>by
     simp only[Ex]
     split
     ·rename_i h;obtain⟨rfl,rfl⟩:=h;omega
     ·exact hb i j hi hj) (by rw[f1];omega)with⟨x,hx,h2,h3⟩|⟨A1,B1,hA1⟩
   ·refine .inl ⟨x,fun i j hi hj=>⟨?_,(hx i j hi hj).2⟩,h2,h3⟩;have:=(hx i j hi hj).1;simp only[Ex]at this
    split at this
    ·rename_i h;obtain⟨rfl,rfl⟩:=h;omega
    ·exact this
   right;have hs:=ZW hi hj (R:=R) (C:=C) (fun i j hi hj=>(hb i j hi hj).2.1) hl hu A0 B0 A1 B1;by_cases h:0<BD r c R C l u (fun i=>A0 i||A1 i) (fun j=>B0 j||B1 j)
   ·exact⟨_,_,h⟩
   ·exact⟨_,_,show 0<BD r c R C l u (fun i=>A0 i&&A1 i) (fun j=>B0 j&&B1 j) by omega⟩
  ·have cu:rs r (fun i=>rs c (fun j=>u i j))≤rs r (fun i=>rs c (fun j=>l i j)):=Fm fun i hi=>Fm fun j hj=>by
    apply Classical.byContradiction;intro h;exact hfree ⟨i,j,hi,hj,J⟩
   exact ih l u hb J
theorem A3K{r:Nat}{l x:Nat→Nat→Int}(hx:∀i j,i<r→j<c→l i j≤x i j∧x i j≤u i j)(hR:∀i,i<r→rs c (fun j=>x i j)=R i)(hC:∀j,j<c→rs r (fun i=>x i j)=C j)(A B:Nat→Bool):BD r c R C l u A B≤0:=by
 unfold BD;have e1:rs r (fun i=>if A i then R i else 0)=rs r (fun i=>rs c (fun j=>if A i then x i j else 0)):=B4 fun i hi=>by
  cases A i
  ·simp[CV]
  ·simp[hR i hi]
 have e2:rs c (fun j=>if B j then C j else 0)=rs r (fun i=>rs c (fun j=>if B j then x i j else 0)):=by
  rw[R3];exact B4 fun j hj=>by
   cases B j
   ·simp[CV]
   ·simp[hC j hj]
 rw[e1,e2,←EX,←DE];refine Int.le_trans (Fm (g:=fun _=>0) fun i hi=>?_) (by rw[CV];exact Int.le_refl _);rw[←EX,←DE];refine Int.le_trans (Fm (g:=fun _=>0) fun j hj=>?_) (by rw[CV];exact Int.le_refl _);have:=hx i j hi hj;cases A i<;>cases B j<;>simp[gc]<;>omega
theorem OA(n:Nat)(f:Nat→Int):rs (n+1) f=f 0+rs n (fun i=>f (i+1)):=by
 induction n with
 |zero=>simp[rs]
 |succ n ih=>rw[rs,ih,rs];omega
theorem F9(l:U):AP l=rs l.length (fun i=>l.getD i 0):=by
 induction l with
 |nil=>rfl
 |cons a l ih=>
  rw[BE,An,OA,ih];simp
theorem Ta(n:Nat)(f:Nat→Int):AP ((List.range n).map f)=rs n f:=by
 rw[F9,Ay,List.length_range];exact B4 fun i hi=>B7 (by rw[Ak,AA hi];rfl)
theorem Vv(l:List α)(f g:α→Int):AP (l.map fun x=>f x+g x)=AP (l.map f)+AP (l.map g):=by
 induction l with
 |nil=>rfl
 |cons a l ih=>simp only[List.map_cons,BE,ih];omega
theorem QC{l:List α}{f g:α→Int}(h:∀x∈l,f x≤g x):AP (l.map f)≤AP (l.map g):=by
 induction l with
 |nil=>exact Int.le_refl _
 |cons a l ih=>
  simp only[List.map_cons,BE];have:=ih (fun x hx=>h x (AL _ hx));have:=h a Jj;omega
theorem U7{a b:U}(h:a.Perm b):AP a=AP b:=by
 induction h with
 |nil=>rfl
 |cons x _ ih=>rw[BE,BE,ih]
 |swap x y l=>rw[BE,BE,BE,BE];omega
 |trans _ _ h1 h2=>rw[h1,h2]
theorem SH(l:List α)(k:Int):AP (l.map fun _=>k)=l.length*k:=by
 induction l with
 |nil=>simp[Ge]
 |cons a l ih=>rw[List.map_cons,BE,ih,An,Int.natCast_succ,Int.add_mul];omega
def ER(r c:Nat)(x:Nat→Nat→Int):I:=(List.range r).map fun i=>(List.range c).map fun j=>x i j
theorem Qq{r:Nat}{x:Nat→Nat→Int}(h:∀i j,i<r→j<c→0≤x i j∧x i j≤1):Ax r c (ER r c x):=by
 refine⟨by simp[ER],fun row hr=>?_⟩;obtain⟨i,hi,rfl⟩:=AE.1 hr;refine⟨Jj,fun z hz=>?_⟩;obtain⟨j,hj,rfl⟩:=AE.1 hz;exact h i j (AG.1 hi) (AG.1 hj)
theorem Pc{r:Nat}{x:Nat→Nat→Int}(hi:i<r)(hj:j<c):AJ (ER r c x) i j=x i j:=by
 unfold AJ ER;rw[B7 (l:=(List.range r).map _) (x:=(List.range c).map fun j=>x i j) (by rw[Ak,AA hi];rfl)];exact B7 (by rw[Ak,AA hj];rfl)
theorem YL{m:I}{r:Nat}(h:Ax r c m)(hi:i<r):AP (m.getD i [])=rs c (fun j=>AJ m i j):=by
 rw[F9,(CM h hi).2];rfl
theorem ZY{m:I}{r:Nat}(h:Ax r c m)(j:Nat):QX m j=rs r (fun i=>AJ m i j):=by
 unfold QX;rw[F9,Ay,h.1];exact B4 fun i _=>Lk h i
theorem E7{r:Nat}{g:I}:Da xs ys r c g↔Ax r c g∧(∀i,i<r→rs c (fun j=>AJ g i j)=xs.getD i 0)∧∀j,j<c→rs r (fun i=>AJ g i j)=ys.getD j 0:=by
 unfold Da;constructor
 ·rintro⟨h1,h2,h3⟩;exact⟨h1,fun i hi=>by rw[←YL h1 hi];exact h2 i hi,fun j hj=>by rw[←ZY h1];exact h3 j hj⟩
 ·rintro⟨h1,h2,h3⟩;exact⟨h1,fun i hi=>by rw[YL h1 hi];exact h2 i hi,fun j hj=>by rw[ZY h1];exact h3 j hj⟩
abbrev Th(l:U):Nat→Int:=fun i=>l.getD i 0
theorem VA(hs:AP xs=AP ys){l:Nat→Nat→Int}(hb:∀i j,i<xs.length→j<ys.length→0≤l i j∧l i j≤u i j∧u i j≤1):
  (∃g,Da xs ys xs.length ys.length g∧∀i j,i<xs.length→j<ys.length→l i j≤AJ g i j∧AJ g i j≤u i j)∨∃A B,0<BD xs.length ys.length (Th xs) (Th ys) l u A B:=by
 have h0:rs xs.length (Th xs)=rs ys.length (Th ys):=by rw[←F9,←F9];exact hs
 rcases A53 xs.length ys.length (Th xs) (Th ys) h0 _ l u hb (Int.self_le_toNat _)with⟨x,h1,h2,h3⟩|h
 ·left;have an:Ax xs.length ys.length (ER xs.length ys.length x):=Qq fun i j hi hj=>by have:=hb i j hi hj;have:=h1 i j hi hj;omega
  refine⟨ER xs.length ys.length x,E7.2 ⟨an,fun i hi=>?_,fun j hj=>?_⟩,fun i j hi hj=>by rw[Pc hi hj];exact h1 i j hi hj⟩
  ·rw[B4 fun j hj=>Pc hi hj];exact h2 i hi
  ·rw[B4 fun i hi=>Pc hi hj];exact h3 j hj
 ·exact .inr h
theorem KF{r:Nat}{g:I}(hg:Da xs ys r c g){l:Nat→Nat→Int}(hb:∀i j,i<r→j<c→l i j≤AJ g i j∧AJ g i j≤u i j)(A B:Nat→Bool):BD r c (Th xs) (Th ys) l u A B≤0:=by
 obtain⟨h1,h2,h3⟩:=E7.1 hg;exact A3K hb h2 h3 A B
def P4(l:U):Prop:=l.Pairwise (fun a b=>b≤a)
def Lp(x:Int):U→U
 |[]=>[x]
 |a::l=>if x≤a then a::Lp x l else x::a::l
def sortD(l:U):U:=l.foldl (fun acc x=>Lp x acc) []
theorem Un(x:Int)(l:U):(Lp x l).Perm (x::l):=by
 induction l with
 |nil=>exact List.Perm.refl _
 |cons a l ih=>
  unfold Lp
  split
  ·exact(List.Perm.cons a ih).trans (List.Perm.swap x a l)
  ·exact List.Perm.refl _
theorem A1z{x:Int}(h:P4 l):P4 (Lp x l):=by
 induction l with
 |nil=>exact List.pairwise_singleton _ _
 |cons a l ih=>
  unfold P4 at h⊢;rw[List.pairwise_cons]at h;unfold Lp
  split
  ·rename_i hxa
   rw[List.pairwise_cons];refine⟨fun b hb=>?_,ih h.2⟩;rcases List.mem_cons.1 ((Un x l).mem_iff.1 hb)with rfl|hb
   ·exact hxa
   ·exact h.1 b hb
  ·rename_i hxa
   rw[List.pairwise_cons,List.pairwise_cons];refine⟨fun b hb=>?_,h⟩;rcases List.mem_cons.1 hb with rfl|hb
   ·omega
   ·have:=h.1 b hb;omega
theorem V5(l acc:U):(l.foldl (fun acc x=>Lp x acc) acc).Perm (acc++l)∧(P4 acc→P4 (l.foldl (fun acc x=>Lp x acc) acc)):=by
 induction l generalizing acc with
 |nil=>simp
 |cons a l ih=>
  obtain⟨h1,h2⟩:=ih (Lp a acc);refine⟨h1.trans ?_,fun h=>h2 (A1z h)⟩;exact((Un a acc).append_right l).trans List.perm_middle.symm
theorem Gx(l:U):(sortD l).Perm l:=(V5 l []).1
theorem NN(l:U):P4 (sortD l):=(V5 l []).2 List.Pairwise.nil
theorem CR(l:U):(sortD l).length=l.length:=(Gx l).length_eq
theorem A3N{a b:U}(h:a.Perm b)(h1:P4 a)(h2:P4 b):a=b:=by
 induction a generalizing b with
 |nil=>exact(List.nil_perm.1 h).symm
 |cons x a ih=>
  cases b with
  |nil=>simp at h
  |cons y b=>
   unfold P4 at h1 h2;rw[List.pairwise_cons]at h1 h2;have hx:y≤x:=by
    rcases List.mem_cons.1 (h.symm.mem_iff.1 (List.mem_cons_self (a:=y) (l:=b)))with e|hm
    ·omega
    ·exact h1.1 y hm
   have hy:x≤y:=by
    rcases List.mem_cons.1 (h.mem_iff.1 (List.mem_cons_self (a:=x) (l:=a)))with e|hm
    ·omega
    ·exact h2.1 x hm
   have e:x=y:=J;subst e;rw[ih h.cons_inv h1.2 h2.2]
theorem A3a{a:U}(h:a.Perm l)(hd:P4 a):a=sortD l:=A3N (h.trans (Gx l).symm) hd (NN l)
theorem Y0{a b:U}(h:List.Perm (a++b) l):∃s:U,s.Sublist l∧s.Perm a:=by
 induction l generalizing a b with
 |nil=>
  have:=List.perm_nil.1 h;exact⟨[],List.Sublist.refl _,by rw[(List.append_eq_nil_iff.1 this).1]⟩
 |cons y l ih=>
  by_cases hy:y∈a
  ·have h1:=List.perm_cons_erase hy;have h2:(y::(a.erase y++b)).Perm (y::l):=((h1.append_right b).symm).trans h;obtain⟨s,hs,hp⟩:=ih h2.cons_inv;exact⟨y::s,hs.cons_cons y,(List.Perm.cons y hp).trans h1.symm⟩
  ·have fj:y∈b:=by
    have:=h.symm.mem_iff.1 (List.mem_cons_self (a:=y) (l:=l));exact(List.mem_append.1 this).resolve_left hy
   have h1:=List.perm_cons_erase fj;have h2:(y::(a++b.erase y)).Perm (y::l):=(List.perm_middle.symm.trans ((h1.append_left a).symm)).trans h;obtain⟨s,hs,hp⟩:=ih h2.cons_inv;exact⟨s,hs.cons y,hp⟩
theorem Xe{s:U}(h:s.Sublist l):∃T:Nat→Bool,rs l.length (fun j=>if T j then 1 else 0)=s.length∧rs l.length (fun j=>if T j then l.getD j 0 else 0)=AP s:=by
 induction h with
 |slnil=>exact⟨fun _=>false,rfl,rfl⟩
 |@cons s l a h ih=>
  obtain⟨T,h1,h2⟩:=ih;refine⟨fun j=>match j with|0=>false|j+1=>T j,?_,?_⟩
  ·rw[An,OA];simpa using h1
  ·rw[An,OA];simp only[List.getD_cons_zero,List.getD_cons_succ,Bool.false_eq_true,if_false];omega
 |@cons_cons s l a h ih=>
  obtain⟨T,h1,h2⟩:=ih;refine⟨fun j=>match j with|0=>true|j+1=>T j,?_,?_⟩
  ·rw[An,OA,An];simp;omega
  ·rw[An,OA,BE];simp only[List.getD_cons_zero,List.getD_cons_succ,if_true];omega
theorem A2Z(ys:U){k:Nat}(hk:k≤ys.length):∃T:Nat→Bool,rs ys.length (fun j=>if T j then 1 else 0)=k∧rs ys.length (fun j=>if T j then ys.getD j 0 else 0)=AP ((sortD ys).take k):=by
 have h:((sortD ys).take k++(sortD ys).drop k).Perm ys:=by rw[List.take_append_drop];exact Gx ys
 obtain⟨s,hs,hp⟩:=Y0 h;obtain⟨T,h1,h2⟩:=Xe hs;refine⟨T,?_,?_⟩
 ·rw[h1,hp.length_eq,At,CR,Nat.min_eq_left hk]
 ·rw[h2,U7 hp]
theorem A3A(ys:U){k:Nat}(hk:k≤ys.length)(T:Nat→Bool)(hT:rs ys.length (fun j=>if T j then 1 else 0)=k):rs ys.length (fun j=>if T j then ys.getD j 0 else 0)≤AP ((sortD ys).take k):=by
 cases k with
 |zero=>
  have h0:∀j,j<ys.length→T j=false:=by
   intro j hj;have:=KQ hj (f:=fun j=>if T j then 1 else 0) (fun i _=>by split<;>decide);rw[hT]at this;cases h:T j
   ·rfl
   ·rw[h]at this;simp at this
  rw[Ks fun j hj=>by rw[h0 j hj];rfl];simp[Ge]
 |succ k=>
  have aN:k<(sortD ys).length:=by rw[CR];omega
  obtain⟨t,ht⟩:∃t,t=(sortD ys)[k]:=⟨_,rfl⟩;have hd:=NN ys;have e1:rs ys.length (fun j=>if T j then ys.getD j 0 else 0)≤rs ys.length (fun j=>max (ys.getD j 0-t) 0+t*(if T j then 1 else 0)):=Fm fun j _=>by
   cases T j<;>simp<;>omega
  rw[DE,A4b,hT]at e1;have e2:rs ys.length (fun j=>max (ys.getD j 0-t) 0)=AP (ys.map fun y=>max (y-t) 0):=by
   rw[F9,Ay];refine B4 fun j hj=>?_;have h1:=A3 hj;rw[B7 h1,B7 (x:=max (ys[j]-t) 0)];rw[Ak,h1];rfl
  have e3:AP (ys.map fun y=>max (y-t) 0)=AP ((sortD ys).map fun y=>max (y-t) 0):=(U7 ((Gx ys).map _)).symm;have e4:(sortD ys).map (fun y=>max (y-t) 0)=((sortD ys).take (k+1)).map (fun y=>max (y-t) 0)++((sortD ys).drop (k+1)).map (fun y=>max (y-t) 0):=by rw[←List.map_append,List.take_append_drop]
  unfold P4 at hd;rw[List.pairwise_iff_getElem]at hd;have hpre:∀y∈(sortD ys).take (k+1),t≤y:=by
   intro y hy;obtain⟨i,hi,rfl⟩:=List.getElem_of_mem hy;rw[At]at hi;rw[List.getElem_take,ht];by_cases xm:i=k
   ·subst xm;exact Int.le_refl _
   ·exact hd i k J aN J
  have vE:∀y∈(sortD ys).drop (k+1),y≤t:=by
   intro y hy;obtain⟨i,hi,rfl⟩:=List.getElem_of_mem hy;rw[List.length_drop]at hi;rw[List.getElem_drop,ht];exact hd k (k+1+i) aN J J
  have e5:AP (((sortD ys).take (k+1)).map fun y=>max (y-t) 0)+((k+1:Nat):Int)*t≤AP ((sortD ys).take (k+1)):=by
   have h1:=QC (l:=(sortD ys).take (k+1)) (f:=fun y=>max (y-t) 0+t) (g:=fun y=>y) (fun y hy=>by have:=hpre y hy;simp;omega);rw[Vv,SH,At,Nat.min_eq_left J]at h1;simpa using h1
  have e6:AP (((sortD ys).drop (k+1)).map fun y=>max (y-t) 0)≤0:=by
   have h1:=QC (l:=(sortD ys).drop (k+1)) (f:=fun y=>max (y-t) 0) (g:=fun _=>0) (fun y hy=>by have:=vE y hy;simp;omega);rw[SH]at h1;simpa using h1
  rw[e4,XL]at e3;rw[Int.mul_comm]at e1;omega
def EN(xs:U)(n:Nat):U:=(List.range n).map fun k:Nat=>((xs.filter fun x=>decide ((k:Int)<x)).length:Int)
def LU(xs:U)(k:Nat):Int:=AP (xs.map fun x=>min x k)
theorem Zk{x:Int}(hx:0≤x)(k:Nat):rs k (fun i=>if(i:Int)<x then 1 else 0)=min x k:=by
 induction k with
 |zero=>simp[rs];omega
 |succ k ih=>
  rw[rs,ih]
  split<;>omega
theorem A0G(h:∀x∈xs,0≤x){k n:Nat}(hk:k≤n):AP ((EN xs n).take k)=LU xs k:=by
 have e:(EN xs n).take k=(List.range k).map fun k:Nat=>((xs.filter fun x=>decide ((k:Int)<x)).length:Int):=by
  unfold EN;rw[←List.map_take,List.take_range,Nat.min_eq_left hk]
 rw[e,Ta];unfold LU;clear e;induction xs with
 |nil=>simp[CV,Ge]
 |cons a xs ih=>
  rw[List.map_cons,BE,←ih (fun x hx=>h x (AL _ hx)),←Zk (h a Jj) k,←DE];refine B4 fun i _=>?_;rw[List.filter_cons];by_cases hi:(i:Int)<a
  ·simp[hi];omega
  ·simp[hi]
theorem Sq(xs:U)(k:Nat):LU xs k=rs xs.length (fun i=>min (xs.getD i 0) k):=by
 unfold LU;rw[F9,Ay];refine B4 fun i hi=>?_;have h1:=A3 hi;rw[B7 h1,B7 (x:=min xs[i] k)];rw[Ak,h1];rfl
def CU(xs ys:U)(k:Nat):Prop:=LU xs k<AP ((sortD ys).take k)
theorem A4R{g:I}(hg:Da xs ys xs.length ys.length g){k:Nat}(hk:k≤ys.length):¬CU xs ys k:=by
 obtain⟨h1,h2,h3⟩:=E7.1 hg;obtain⟨T,hT,hS⟩:=A2Z ys hk;unfold CU;rw[←hS,Sq];have e1:rs ys.length (fun j=>if T j then ys.getD j 0 else 0)=rs xs.length (fun i=>rs ys.length (fun j=>if T j then AJ g i j else 0)):=by
  rw[R3];exact B4 fun j hj=>by
   cases T j
   ·simp[CV]
   ·simp[h3 j hj]
 rw[e1,Int.not_lt];refine Fm fun i hi=>?_;have a1:rs ys.length (fun j=>if T j then AJ g i j else 0)≤rs ys.length (fun j=>AJ g i j):=Fm fun j _=>by
  have:=AS h1 i j;cases T j<;>simp<;>omega
 have a2:rs ys.length (fun j=>if T j then AJ g i j else 0)≤rs ys.length (fun j=>if T j then 1 else 0):=Fm fun j _=>by
  have:=AS h1 i j;cases T j<;>simp;omega
 rw[h2 i hi]at a1;rw[hT]at a2;omega
theorem A4c(hs:AP xs=AP ys)(h:∀k,1≤k→k≤ys.length→¬CU xs ys k)(hx:∀i,0≤xs.getD i 0):∃g,Da xs ys xs.length ys.length g:=by
 rcases VA hs (l:=fun _ _=>0) (u:=fun _ _=>1) (fun _ _ _ _=>by decide)with⟨g,hg,-⟩|⟨A,B,hn⟩
 ·exact⟨g,hg⟩
 exfalso;unfold BD at hn;obtain⟨k,hk⟩:∃k:Nat,rs ys.length (fun j=>if B j then 0 else 1)=k:=⟨(rs ys.length (fun j=>if B j then 0 else 1)).toNat,(Int.toNat_of_nonneg (EL fun j _=>by split<;>decide)).symm⟩;have au:k≤ys.length:=by
  have:=Fm (n:=ys.length) (f:=fun j=>if B j then 0 else 1) (g:=fun _=>1) (fun j _=>by split<;>decide);rw[Rr,hk]at this;omega
 have e1:rs xs.length (fun i=>rs ys.length (fun j=>gc (A i) (B j) 0 1))=0-rs xs.length (fun i=>if A i then(k:Int)else 0):=by
  have:rs xs.length (fun i=>rs ys.length (fun j=>gc (A i) (B j) 0 1))=rs xs.length (fun i=>0-if A i then(k:Int)else 0):=B4 fun i _=>by
   cases hA:A i
   ·simp[gc,CV]
   ·rw[if_pos rfl,←hk,←CV ys.length,←EX];refine B4 fun j _=>?_;cases B j<;>simp[gc,CV]
  rw[this,EX,CV]
 have e2:rs ys.length (fun j=>if(!B j)then ys.getD j 0 else 0)=rs ys.length (Th ys)-rs ys.length (fun j=>if B j then Th ys j else 0):=by
  rw[←EX];refine B4 fun j _=>?_;cases B j<;>simp
 have e3:rs xs.length (fun i=>if A i then(k:Int)else Th xs i)=rs xs.length (Th xs)-rs xs.length (fun i=>if A i then Th xs i else 0)+rs xs.length (fun i=>if A i then(k:Int)else 0):=by
  rw[←EX,←DE];refine B4 fun j _=>?_;cases A j<;>simp
 have e4:LU xs k≤rs xs.length (fun i=>if A i then(k:Int)else Th xs i):=by
  rw[Sq];exact Fm fun i _=>by show _≤(if A i then(k:Int)else xs.getD i 0);split<;>omega
 have e5:=A3A ys au (fun j=>!B j) (by rw[←hk];exact B4 fun j _=>by cases B j<;>rfl);have e6:rs xs.length (Th xs)=rs ys.length (Th ys):=by rw[←F9,←F9];exact hs
 rw[e1]at hn;have ox:CU xs ys k:=by unfold CU;omega
 by_cases h0:k=0
 ·subst h0;unfold CU at ox;have:0≤LU xs 0:=by
   rw[Sq];exact EL fun i _=>by have:=hx i;omega
  simp[Ge]at ox;omega
 ·exact h k J au ox
abbrev Sw:=Nat×Nat×Nat×Nat
variable {s:Sw}
abbrev Sw.y1(s:Sw):Nat:=s.1
abbrev Sw.y2(s:Sw):Nat:=s.2.1
abbrev Sw.x1(s:Sw):Nat:=s.2.2.1
abbrev Sw.x2(s:Sw):Nat:=s.2.2.2
def KA(g:I)(y x:Nat):I:=setC g y x (1-AJ g y x)
def Ba(g:I)(s:Sw):I:=KA (KA (KA (KA g s.y1 s.x1) s.y1 s.x2) s.y2 s.x1) s.y2 s.x2
def CL(r c:Nat)(g:I)(s:Sw):Prop:=s.y1<s.y2∧s.y2<r∧s.x1<s.x2∧s.x2<c∧AJ g s.y1 s.x1=AJ g s.y2 s.x2∧AJ g s.y1 s.x2=AJ g s.y2 s.x1∧AJ g s.y1 s.x1≠AJ g s.y1 s.x2
instance(r c:Nat)(g:I)(s:Sw):Decidable (CL r c g s):=by unfold CL;infer_instance
theorem En{r:Nat}{g:I}(h:Ax r c g)(hy:y<r):Ax r c (KA g y x):=by
 have:=AS h y x;exact EA h hy J J
theorem Mk{r:Nat}{g:I}(h:Ax r c g)(hy:y<r)(hx:x<c)(i j:Nat):AJ (KA g y x) i j=if i=y∧j=x then 1-AJ g i j else AJ g i j:=by
 unfold KA;rw[H8 h hy hx]
 split
 ·rename_i e;rw[e.1,e.2]
 ·rfl
theorem Cu{r:Nat}{g:I}(h:Ax r c g)(hs:CL r c g s):Ax r c (Ba g s):=by
 obtain⟨h1,h2,h3,h4,-⟩:=hs;exact En (En (En (En h J) J) h2) h2
theorem Dj{r:Nat}{g:I}(h:Ax r c g)(hs:CL r c g s)(i j:Nat):AJ (Ba g s) i j=if(i=s.y1∨i=s.y2)∧(j=s.x1∨j=s.x2)then 1-AJ g i j else AJ g i j:=by
 obtain⟨h1,h2,h3,h4,-⟩:=hs;have a1:=En (x:=s.x1) h (show s.y1<r by omega);have a2:=En (x:=s.x2) a1 (show s.y1<r by omega);have a3:=En (x:=s.x1) a2 h2;unfold Ba;rw[Mk a3 h2 h4,Mk a2 h2 J,Mk a1 J h4,Mk h J J];by_cases e1:i=s.y1
 ·by_cases e2:j=s.x1
  ·rw[if_neg J,if_neg J,if_neg J,if_pos J,if_pos J]
  ·by_cases e3:j=s.x2
   ·rw[if_neg J,if_neg J,if_pos J,if_neg J,if_pos J]
   ·rw[if_neg J,if_neg J,if_neg J,if_neg J,if_neg J]
 ·by_cases e4:i=s.y2
  ·by_cases e2:j=s.x1
   ·rw[if_neg J,if_pos J,if_neg J,if_neg J,if_pos J]
   ·by_cases e3:j=s.x2
    ·rw[if_pos J,if_neg J,if_neg J,if_neg J,if_pos J]
    ·rw[if_neg J,if_neg J,if_neg J,if_neg J,if_neg J]
  ·rw[if_neg J,if_neg J,if_neg J,if_neg J,if_neg J]
theorem IC{r:Nat}{g:I}(h:Ax r c g)(hs:CL r c g s):CL r c (Ba g s) s:=by
 have dY:=hs;obtain⟨h1,h2,h3,h4,h5,h6,h7⟩:=hs;refine⟨h1,h2,h3,h4,?_⟩;rw[Dj h dY,Dj h dY,Dj h dY,Dj h dY,if_pos J,if_pos J,if_pos J,if_pos J];exact⟨J,J,J⟩
theorem Gn{r:Nat}{g:I}(h:Ax r c g)(hs:CL r c g s):Ba (Ba g s) s=g:=by
 have h1:=Cu h hs;have h2:=IC h hs;refine(Cu h1 h2).ext h fun i j _ _=>?_;show AJ _ i j=AJ g i j;rw[Dj h1 h2,Dj h hs]
 split<;>omega
theorem A3g{n a:Nat}(ha:a<n)(hb:b<n)(aK:a≠b){f g:Nat→Int}(h:∀k,k<n→k≠a→k≠b→f k=g k)(gZ:f a+f b=g a+g b):rs n f=rs n g:=by
 have h1:=K3 ha (f:=f) (g:=fun k=>if k=a then g a else f k) (fun k _ hk=>by rw[if_neg hk]);have h2:=K3 hb (f:=fun k=>if k=a then g a else f k) (g:=g) (fun k hk hkb=>by
  try dsimp only
  by_cases e:k=a
  ·rw[if_pos e,e]
  ·rw[if_neg e];exact h k hk e hkb)
 try dsimp only at h1 h2
 rw[if_pos rfl]at h1;rw[if_neg (fun e=>aK e.symm)]at h2;omega
theorem DO{r:Nat}{g:I}(h:Da xs ys r c g)(hs:CL r c g s):Da xs ys r c (Ba g s):=by
 obtain⟨an,hr,hc⟩:=E7.1 h;have dY:=hs;obtain⟨h1,h2,h3,h4,h5,h6,h7⟩:=hs;have b1:=AS an s.y1 s.x1;have b2:=AS an s.y1 s.x2;refine E7.2 ⟨Cu an dY,fun i hi=>?_,fun j hj=>?_⟩
 ·rw[←hr i hi];refine A3g (show s.x1<c by omega) h4 J (fun k _ e1 e2=>by rw[Dj an dY,if_neg J]) ?_;rw[Dj an dY,Dj an dY];by_cases e1:i=s.y1
  ·rw[if_pos J,if_pos J,e1];omega
  ·by_cases e2:i=s.y2
   ·rw[if_pos J,if_pos J,e2];omega
   ·rw[if_neg J,if_neg J]
 ·rw[←hc j hj];refine A3g (show s.y1<r by omega) h2 J (fun k _ e1 e2=>by rw[Dj an dY,if_neg J]) ?_;rw[Dj an dY,Dj an dY];by_cases e1:j=s.x1
  ·rw[if_pos J,if_pos J,e1];omega
  ·by_cases e2:j=s.x2
   ·rw[if_pos J,if_pos J,e2];omega
   ·rw[if_neg J,if_neg J]
def BR(r c:Nat)(g h:I):Int:=rs r (fun i=>rs c (fun j=>if AJ g i j=AJ h i j then 0 else 1))
theorem Sj(r c:Nat)(g h:I):BR r c g h=BR r c h g:=B4 fun i _=>B4 fun j _=>by
 by_cases e:AJ g i j=AJ h i j
 ·rw[if_pos e,if_pos e.symm]
 ·rw[if_neg e,if_neg (fun x=>e x.symm)]
theorem Rq{r:Nat}{g:I}(hg:Ax r c g)(hh:Ax r c h)(hd:BR r c g h≤0):g=h:=by
 refine hg.ext hh fun i j hi hj=>?_;show AJ g i j=AJ h i j;apply Classical.byContradiction;intro aK;have h1:=KQ hi (f:=fun i=>rs c (fun j=>if AJ g i j=AJ h i j then(0:Int)else 1)) (fun i _=>EL fun j _=>by split<;>decide);have h2:=KQ hj (f:=fun j=>if AJ g i j=AJ h i j then(0:Int)else 1) (fun j _=>by split<;>decide)
 try dsimp only at h1 h2
 rw[if_neg aK]at h2;unfold BR at hd;omega
theorem Zd(f:Nat→Int):∀r,0<r→∃a,a<r∧∀b,b<r→f b≤f a:=by
 intro r;induction r with
 |zero=>intro h;omega
 |succ r ih=>
  intro _;by_cases h0:r=0
  ·subst h0;refine⟨0,J,fun b hb=>?_⟩;have e:b=0:=J;rw[e];exact Int.le_refl _
  ·obtain⟨a,ha,hm⟩:=ih J;by_cases h:f a≤f r
   ·exact⟨r,J,fun b hb=>by
     by_cases e:b=r
     ·rw[e];exact Int.le_refl _
     ·have:=hm b J;omega⟩
   ·exact⟨a,J,fun b hb=>by
     by_cases e:b=r
     ·rw[e];omega
     ·exact hm b J⟩
theorem S6{n:Nat}{f g:Nat→Int}(h:rs n f=rs n g)(hj:j<n)(aF:f j<g j):∃k,k<n∧g k<f k:=by
 apply Classical.byContradiction;intro hn;have h1:=EX n g f;have h2:=KQ hj (f:=fun k=>g k-f k) (fun k hk=>by
  apply Classical.byContradiction;intro bW;exact hn ⟨k,hk,J⟩)
 try dsimp only at h2
 omega
theorem Yp{r:Nat}{g:I}(hg:Da xs ys r c g)(hh:Da xs ys r c h)(aK:g≠h):
  ∃a b j k,a<r∧b<r∧j<c∧k<c∧AJ g a j=1∧AJ h a j=0∧AJ g a k=0∧AJ h a k=1∧AJ g b j=0∧AJ h b j=1∧(AJ g b k=1∨AJ h b k=0):=by
 obtain⟨gs,gr,gc⟩:=E7.1 hg;obtain⟨hs,hr,hc⟩:=E7.1 hh;have bg:=AS gs;have bh:=AS hs;have hN:∃i,i<r∧∃k,k<c∧AJ g i k=0∧AJ h i k=1:=by
  apply Classical.byContradiction;intro hn;apply aK;refine gs.ext hs fun i j hi hj=>?_;show AJ g i j=AJ h i j;apply Classical.byContradiction;intro hd;have e:rs c (fun j=>AJ g i j)=rs c (fun j=>AJ h i j):=(gr i hi).trans (hr i hi).symm;have b1:=bg i j;have b2:=bh i j;by_cases aF:AJ g i j<AJ h i j
  ·exact hn ⟨i,hi,j,hj,J,J⟩
  ·obtain⟨k,hk,bW⟩:=S6 e.symm hj (by omega:AJ h i j<AJ g i j);have b3:=bg i k;have b4:=bh i k;exact hn ⟨i,hi,k,hk,J,J⟩
 obtain⟨i0,gD,k0,ap,cT,bL⟩:=hN;obtain⟨a,ha,hmax⟩:=Zd (fun i=>rs c (fun k=>if AJ g i k=0∧AJ h i k=1 then 1 else 0)) r J;have aZ:0<rs c (fun k=>if AJ g a k=0∧AJ h a k=1 then(1:Int)else 0):=by
  have h1:=hmax i0 gD;have h2:=KQ ap (f:=fun k=>if AJ g i0 k=0∧AJ h i0 k=1 then(1:Int)else 0) (fun k _=>by split<;>decide)
  try dsimp only at h1 h2
  rw[if_pos ⟨cT,bL⟩]at h2;omega
 obtain⟨k1,fH,hp1⟩:=A4d aZ;have hk1z:AJ g a k1=0∧AJ h a k1=1:=by
  apply Classical.byContradiction;intro hn;rw[if_neg hn]at hp1;omega
 obtain⟨j,hj,hjlt⟩:=S6 ((gr a ha).trans (hr a ha).symm) fH (show AJ g a k1<AJ h a k1 by omega);have b1:=bg a j;have b2:=bh a j;obtain⟨b,hb,hblt⟩:=S6 ((hc j hj).trans (gc j hj).symm) ha (show AJ h a j<AJ g a j from hjlt);have b3:=bg b j;have b4:=bh b j;apply Classical.byContradiction;intro hn;have aQ:∀k,k<c→AJ g a k=0∧AJ h a k=1→AJ g b k=0∧AJ h b k=1:=by
  intro k hk hz;have b5:=bg b k;have b6:=bh b k;apply Classical.byContradiction;intro f9;exact hn ⟨a,b,j,k,ha,hb,hj,hk,J,J,hz.1,hz.2,J,J,J⟩
 have h1:=hmax b hb;have h2:=Fm (n:=c) (f:=fun k=>(if AJ g a k=0∧AJ h a k=1 then(1:Int)else 0)+if k=j then 1 else 0) (g:=fun k=>if AJ g b k=0∧AJ h b k=1 then 1 else 0) (fun k hk=>by
  try dsimp only
  by_cases e:k=j
  ·subst e;rw[if_neg J,if_pos rfl,if_pos J];omega
  ·rw[if_neg e]
   split
   ·rename_i hz
    rw[if_pos (aQ k hk hz)];omega
   ·split<;>omega)
 rw[DE,Eb hj (fun _=>1)]at h2
 try dsimp only at h1
 omega
def Pn(a b j k:Nat):Sw:=(min a b,max a b,min j k,max j k)
theorem Wy{r a k:Nat}{g:I}(ha:a<r)(hb:b<r)(hj:j<c)(hk:k<c)(_:AJ g a j=0∨AJ g a j=1)(h2:AJ g a k=1-AJ g a j)(h3:AJ g b j=1-AJ g a j)(h4:AJ g b k=AJ g a j):CL r c g (Pn a b j k):=by
 have gZ:a≠b:=by rintro rfl;omega
 have kL:j≠k:=by rintro rfl;omega
 unfold CL Pn;rcases Nat.lt_or_gt_of_ne gZ with h|h<;>rcases Nat.lt_or_gt_of_ne kL with h'|h'
 ·rw[Nat.min_eq_left J,Nat.max_eq_right J,Nat.min_eq_left J,Nat.max_eq_right J];simp only[Sw.y1,Sw.y2,Sw.x1,Sw.x2];omega
 ·rw[Nat.min_eq_left J,Nat.max_eq_right J,Nat.min_eq_right J,Nat.max_eq_left J];simp only[Sw.y1,Sw.y2,Sw.x1,Sw.x2];omega
 ·rw[Nat.min_eq_right J,Nat.max_eq_left J,Nat.min_eq_left J,Nat.max_eq_right J];simp only[Sw.y1,Sw.y2,Sw.x1,Sw.x2];omega
 ·rw[Nat.min_eq_right J,Nat.max_eq_left J,Nat.min_eq_right J,Nat.max_eq_left J];simp only[Sw.y1,Sw.y2,Sw.x1,Sw.x2];omega
theorem A2z{a k:Nat}(h:(i=(Pn a b j k).y1∨i=(Pn a b j k).y2)∧(x=(Pn a b j k).x1∨x=(Pn a b j k).x2)):(i=a∨i=b)∧(x=j∨x=k):=by
 unfold Pn at h;simp only[Sw.y1,Sw.y2,Sw.x1,Sw.x2]at h;omega
theorem A1w{a k:Nat}(h:(i=a∨i=b)∧(x=j∨x=k)):(i=(Pn a b j k).y1∨i=(Pn a b j k).y2)∧(x=(Pn a b j k).x1∨x=(Pn a b j k).x2):=by
 unfold Pn;simp only[Sw.y1,Sw.y2,Sw.x1,Sw.x2];omega
theorem Uv{r a k:Nat}{g:I}(hg:Ax r c g)(hh:Ax r c h)(ha:a<r)(hb:b<r)(hj:j<c)(hk:k<c)(h1:AJ g a j=0∨AJ g a j=1)(h2:AJ g a k=1-AJ g a j)(h3:AJ g b j=1-AJ g a j)(h4:AJ g b k=AJ g a j)
  (e1:AJ h a j=1-AJ g a j)(e2:AJ h a k=AJ g a j)(e3:AJ h b j=AJ g a j):BR r c (Ba g (Pn a b j k)) h<BR r c g h:=by
 have hok:=Wy (r:=r) (c:=c) ha hb hj hk h1 h2 h3 h4;have gZ:a≠b:=by rintro rfl;omega
 have kL:j≠k:=by rintro rfl;omega
 have key:=Fm (n:=r) (f:=fun i=>rs c (fun x=>if AJ (Ba g (Pn a b j k)) i x=AJ h i x then(0:Int)else 1)+rs c (fun x=>if i=a∧x=j then(1:Int)else 0)+rs c (fun x=>if i=a∧x=k then(1:Int)else 0))
  (g:=fun i=>rs c (fun x=>if AJ g i x=AJ h i x then(0:Int)else 1)+rs c (fun x=>if i=b∧x=k then(1:Int)else 0)) (fun i hi=>by
    try dsimp only
    rw[←DE,←DE,←DE];refine Fm fun x hx=>?_;rw[Dj hg hok];by_cases hm:(i=a∨i=b)∧(x=j∨x=k)
    ·rw[if_pos (A1w hm)];have b4:=AS hh b k;have b5:AJ h b k=0∨AJ h b k=1:=J;rcases hm with⟨hi'|hi',hx'|hx'⟩
     ·rw[hi',hx',if_pos (show 1-AJ g a j=AJ h a j by omega),if_neg (show ¬AJ g a j=AJ h a j by omega),if_pos (show a=a∧j=j from⟨rfl,rfl⟩),if_neg (show ¬(a=a∧j=k) by omega),if_neg (show ¬(a=b∧j=k) by omega)];decide
     ·rw[hi',hx',if_pos (show 1-AJ g a k=AJ h a k by omega),if_neg (show ¬AJ g a k=AJ h a k by omega),if_pos (show a=a∧k=k from⟨rfl,rfl⟩),if_neg (show ¬(a=a∧k=j) by omega),if_neg (show ¬(a=b∧k=k) by omega)];decide
     ·rw[hi',hx',if_pos (show 1-AJ g b j=AJ h b j by omega),if_neg (show ¬AJ g b j=AJ h b j by omega),if_neg (show ¬(b=a∧j=j) by omega),if_neg (show ¬(b=a∧j=k) by omega),if_neg (show ¬(b=b∧j=k) by omega)];decide
     ·rw[hi',hx',if_neg (show ¬(b=a∧k=j) by omega),if_neg (show ¬(b=a∧k=k) by omega),if_pos (show b=b∧k=k from⟨rfl,rfl⟩)];by_cases e:AJ g b k=AJ h b k
      ·rw[if_pos e,if_neg J];decide
      ·rw[if_neg e,if_pos J];decide
    ·rw[if_neg (fun h=>hm (A2z h))];have n1:¬(i=a∧x=j):=fun h=>hm ⟨.inl h.1,.inl h.2⟩;have n2:¬(i=a∧x=k):=fun h=>hm ⟨.inl h.1,.inr h.2⟩;have n3:¬(i=b∧x=k):=fun h=>hm ⟨.inr h.1,.inr h.2⟩;rw[if_neg n1,if_neg n2,if_neg n3];omega)
 rw[DE,DE,DE,Wo ha hj,Wo ha hk,Wo hb hk]at key;unfold BR;omega
theorem Su{r:Nat}{g:I}(hg:Da xs ys r c g)(hh:Da xs ys r c h)(aK:g≠h):
  (∃s,CL r c g s∧BR r c (Ba g s) h<BR r c g h)∨∃s,CL r c h s∧BR r c g (Ba h s)<BR r c g h:=by
 obtain⟨a,b,j,k,ha,hb,hj,hk,h1,h2,h3,h4,h5,h6,h7⟩:=Yp hg hh aK;have gs:=hg.1;have hs:=hh.1;by_cases h8:AJ g b k=1
 ·exact .inl ⟨_,Wy ha hb hj hk (.inr h1) J J J,Uv gs hs ha hb hj hk (.inr h1) J J J J J J⟩
 ·right;have h9:AJ h b k=0:=by have:=AS hs b k;omega
  refine⟨_,Wy ha hb hj hk (.inl h2) J J J,?_⟩;have:=Uv hs gs ha hb hj hk (.inl h2) J J J J J J;rw[Sj r c h g,Sj r c _ g]at this;exact this
inductive Ix(r c:Nat):I→I→Prop
 |refl (g):Ix r c g g
 |step {g h:I} {s:Sw}:Ix r c g h→CL r c h s→Ix r c g (Ba h s)
theorem Ix.trans{r:Nat}{a b d:I}(h1:Ix r c a b)(h2:Ix r c b d):Ix r c a d:=by
 induction h2 with
 |refl=>exact h1
 |step _ hs ih=>exact .step ih hs
theorem Ix.sums{r:Nat}{a b:I}(h1:Ix r c a b)(h:Da xs ys r c a):Da xs ys r c b:=by
 induction h1 with
 |refl=>exact h
 |step _ hs ih=>exact DO ih hs
theorem Ix.shape{r:Nat}{a b:I}(h1:Ix r c a b)(h:Ax r c a):Ax r c b:=by
 induction h1 with
 |refl=>exact h
 |step _ hs ih=>exact Cu ih hs
theorem Ix.symm{r:Nat}{a b:I}(h1:Ix r c a b)(h:Ax r c a):Ix r c b a:=by
 induction h1 with
 |refl=>exact .refl _
 |@step b s h2 hs ih=>
  have hb:=h2.shape h;have h3:Ix r c (Ba b s) b:=by
   have:=Ix.step (.refl (Ba b s)) (IC hb hs);rwa[Gn hb hs]at this
  exact h3.trans ih
theorem A4K{r:Nat}:∀(n:Nat){g h:I},Da xs ys r c g→Da xs ys r c h→BR r c g h≤n→Ix r c g h:=by
 intro n;induction n with
 |zero=>intro g h hg hh hd;rw[Rq hg.1 hh.1 hd];exact .refl _
 |succ n ih=>
  intro g h hg hh hd;by_cases aK:g=h
  ·rw[aK];exact .refl _
  rcases Su hg hh aK with⟨s,hs,aF⟩|⟨s,hs,aF⟩
  ·exact(Ix.step (.refl g) hs).trans (ih (DO hg hs) hh J)
  ·have h1:=ih hg (DO hh hs) J;have h2:=Ix.step (.refl h) hs;exact h1.trans (h2.symm hh.1)
theorem Rg{r:Nat}{g:I}(hg:Da xs ys r c g)(hh:Da xs ys r c h):Ix r c g h:=A4K _ hg hh (Int.self_le_toNat _)
theorem Ix.first{r:Nat}{g:I}(hj:Ix r c g h)(aK:g≠h):∃s,CL r c g s:=by
 induction hj with
 |refl=>exact absurd rfl aK
 |@step b s h2 hs ih=>
  by_cases e:g=b
  ·subst e;exact⟨s,hs⟩
  ·exact ih e
theorem Zb{r:Nat}{g:I}(hg:Da xs ys r c g):(∀h,Da xs ys r c h→h=g)↔∀s,¬CL r c g s:=by
 constructor
 ·intro hu s hs;have h1:=hu _ (DO hg hs);have h2:=Dj hg.1 hs s.y1 s.x1;rw[h1,if_pos ⟨.inl rfl,.inl rfl⟩]at h2;omega
 ·intro hn h hh;apply Classical.byContradiction;intro aK;obtain⟨s,hs⟩:=(Rg hg hh).first (fun e=>aK e.symm)
  exact hn s hs
theorem YB.irrefl{r:Nat}{a:I}:¬YB r c a a:=by rintro⟨y,x,-,-,-,h⟩;omega
theorem YB.asymm{r:Nat}{a b:I}(h:YB r c a b)(k:YB r c b a):False:=by
 obtain⟨y,x,h1,h2,h3,h4⟩:=h;obtain⟨y',x',k1,k2,k3,k4⟩:=k;by_cases e:y<y'∨y=y'∧x<x'
 ·have:=k3 y x e;omega
 ·by_cases e2:y'<y∨y'=y∧x'<x
  ·have:=h3 y' x' e2;omega
  ·have e3:y=y'∧x=x':=J;obtain⟨rfl,rfl⟩:=e3;omega
theorem Uz{R:α→α→Prop}(irr:∀a,¬R a a)(asy:∀a b,R a b→R b a→False){l1 l2:List α}(h1:l1.Pairwise R)(h2:l2.Pairwise R)(hm:∀x,x∈l1↔x∈l2):l1=l2:=by
 induction l1 generalizing l2 with
 |nil=>
  cases l2 with
  |nil=>rfl
  |cons b l2=>exact absurd ((hm b).2 Jj) Jj
 |cons a l1 ih=>
  cases l2 with
  |nil=>exact absurd ((hm a).1 Jj) Jj
  |cons b l2=>
   rw[List.pairwise_cons]at h1 h2;have e:a=b:=by
    rcases List.mem_cons.1 ((hm a).1 Jj)with e|e
    ·exact e
    ·rcases List.mem_cons.1 ((hm b).2 Jj)with e'|e'
     ·exact e'.symm
     ·exact(asy _ _ (h1.1 b e') (h2.1 a e)).elim
   subst e;rw[ih h1.2 h2.2 fun x=>?_];constructor
   ·intro hx;rcases List.mem_cons.1 ((hm x).1 (AL _ hx))with e|e
    ·subst e;exact absurd (h1.1 x hx) (irr _)
    ·exact e
   ·intro hx;rcases List.mem_cons.1 ((hm x).2 (AL _ hx))with e|e
    ·subst e;exact absurd (h2.1 x hx) (irr _)
    ·exact e
theorem MT{β:Type}[DecidableEq β](f:α→β):∀(l1:List α)(l2:List β),l1.Pairwise (fun a b=>f a≠f b)→(∀x∈l1,f x∈l2)→l1.length≤l2.length
 |[],_,_,_=>by simp
 |a::l1,l2,h,hm=>by
  rw[List.pairwise_cons]at h;have h1:=hm a Jj;have h2:=MT f l1 (l2.erase (f a)) h.2 fun x hx=>by
   have:=hm x (AL _ hx);exact(List.mem_erase_of_ne (fun e=>h.1 x hx e.symm)).2 this
  rw[List.length_erase_of_mem h1]at h2;have:=List.length_pos_of_mem h1;rw[An];omega
theorem A4m{m:I}{r:Nat}(h:Ax r c m)(h1:1≤r)(hi:i<c)(hj:j<r):AJ (tr m) i j=AJ m j i:=by
 unfold AJ;rw[B7 (A4P h h1 hi)];exact B7 (by rw[Ak,AA hj];rfl)
theorem TU(h:AT xs ys=true):(BB xs ys).Pairwise (fun a b=>a≠b):=
 (Ma h).imp fun aF e=>by subst e;exact YB.irrefl aF
instance(xs ys:U)(k:Nat):Decidable (CU xs ys k):=by unfold CU;infer_instance
def FJ(xs ys:U):Nat:=match(List.range ys.length).find? (fun i=>decide (CU xs ys (i+1)))with
 |some i=>i+1
 |none=>0
def Fq(xs ys:U):Nat:=if AT xs ys then FJ xs ys else 0
def BF(xs ys:U):Bool:=AT xs ys&&decide (Fq xs ys=0)
theorem LV:FJ xs ys=0↔∀k,1≤k→k≤ys.length→¬CU xs ys k:=by
 unfold FJ
 split
 ·rename_i i hi
  have h1:=List.find?_some hi;have h2:=List.mem_of_find?_eq_some hi;rw[AG]at h2;exact⟨fun h=>by omega,fun h=>absurd (by simpa using h1) (h (i+1) J J)⟩
 ·rename_i hi
  refine⟨fun _ k h1 h2=>?_,fun _=>rfl⟩;have:=List.find?_eq_none.1 hi (k-1) (AG.2 J);rw[show k-1+1=k by omega]at this;simpa using this
theorem Zo(h:FJ xs ys≠0):1≤FJ xs ys∧FJ xs ys≤ys.length∧CU xs ys (FJ xs ys):=by
 unfold FJ at h⊢
 split
 ·rename_i i hi
  have h1:=List.find?_some hi;have h2:=List.mem_of_find?_eq_some hi;rw[AG]at h2;exact⟨J,J,by simpa using h1⟩
 ·rename_i hi
  rw[hi]at h;exact absurd rfl h
theorem JH(h:AT xs ys=true):BF xs ys=true↔∃g,Da xs ys xs.length ys.length g:=by
 obtain⟨h1,h2,h3,h4,h5,h6,h7⟩:=BG h;unfold BF Fq;rw[h];simp only[if_true,Bool.true_and,Ah];rw[LV];exact⟨fun hk=>A4c h7 hk fun i=>(h5 i).1,fun⟨g,hg⟩ k _ hk=>A4R hg hk⟩
theorem OB(h:AT xs ys=true):BF xs ys=true↔BB xs ys≠[]:=by
 rw[JH h];constructor
 ·rintro⟨g,hg⟩ e;have:=(Dy h g).2 hg;rw[e]at this;cases this
 ·intro aK;obtain⟨g,hg⟩:=List.exists_mem_of_ne_nil _ aK;exact⟨g,(Dy h g).1 hg⟩
theorem FL(h:BF xs ys=true):AT xs ys=true:=by
 unfold BF at h;rw[Af]at h;exact h.1
def Cl:Nat→Int→I
 |0,k=>if k=0 then[[]]else[]
 |n+1,k=>(if 0≤k then(Cl n k).map (0:: ·)else[])++(if 1≤k then(Cl n (k-1)).map (1:: ·)else[])
theorem G6{n:Nat}:∀{k:Int}{l:U},l∈Cl n k↔l.length=n∧(∀x∈l,0≤x∧x≤1)∧AP l=k:=by
 induction n with
 |zero=>
  intro k l;unfold Cl;constructor
  ·intro h
   split at h
   ·rename_i hk
    rw[List.mem_singleton]at h;subst h;subst hk;exact⟨rfl,Jj,rfl⟩
   ·cases h
  ·rintro⟨h1,-,h3⟩;have:l=[]:=List.eq_nil_of_length_eq_zero h1;subst this;rw[Ge]at h3;rw[if_pos h3.symm];simp
 |succ n ih=>
  intro k l;unfold Cl;rw[List.mem_append];constructor
  ·rintro(h|h)
   ·split at h
    ·obtain⟨t,ht,rfl⟩:=AE.1 h;obtain⟨h1,h2,h3⟩:=ih.1 ht;refine⟨by simp[h1],fun x hx=>?_,by rw[BE];omega⟩;rcases List.mem_cons.1 hx with rfl|hx
     ·omega
     ·exact h2 x hx
    ·cases h
   ·split at h
    ·obtain⟨t,ht,rfl⟩:=AE.1 h;obtain⟨h1,h2,h3⟩:=ih.1 ht;refine⟨by simp[h1],fun x hx=>?_,by rw[BE];omega⟩;rcases List.mem_cons.1 hx with rfl|hx
     ·omega
     ·exact h2 x hx
    ·cases h
  ·rintro⟨h1,h2,h3⟩;cases l with
   |nil=>simp at h1
   |cons a l=>
    have ha:=h2 a Jj;have hl:∀x∈l,0≤x∧x≤1:=fun x hx=>h2 x (AL _ hx);rw[BE]at h3;have hb:=UR (l:=l) fun i hi=>by rw[B7 (A3 hi)];exact hl _ (List.getElem_mem hi)
    have h1:l.length=n:=by simpa using h1
    by_cases e:a=0
    ·left;rw[if_pos J];exact AE.2 ⟨l,ih.2 ⟨h1,hl,J⟩,by rw[e]⟩
    ·right;rw[if_pos J];exact AE.2 ⟨l,ih.2 ⟨h1,hl,J⟩,by rw[show a=1 by omega]⟩
def LLt(a b:U):Prop:=∃x,x<a.length∧(∀j,j<x→a.getD j 0=b.getD j 0)∧a.getD x 0<b.getD x 0
theorem LLt.cons{a b:U}(z:Int)(h:LLt a b):LLt (z::a) (z::b):=by
 obtain⟨x,h1,h2,h3⟩:=h;refine⟨x+1,by simp;omega,fun j hj=>?_,by simpa using h3⟩;cases j with
 |zero=>simp
 |succ j=>have:=h2 j J;simpa using this
theorem S7{n:Nat}:∀{k:Int},(Cl n k).Pairwise LLt:=by
 induction n with
 |zero=>intro k;unfold Cl;split<;>simp
 |succ n ih=>
  intro k;unfold Cl;rw[List.pairwise_append];refine⟨?_,?_,?_⟩
  ·split
   ·exact List.pairwise_map.2 (ih.imp fun h=>h.cons 0)
   ·exact List.Pairwise.nil
  ·split
   ·exact List.pairwise_map.2 (ih.imp fun h=>h.cons 1)
   ·exact List.Pairwise.nil
  ·intro a ha b hb
   split at ha
   ·split at hb
    ·obtain⟨a',-,rfl⟩:=AE.1 ha;obtain⟨b',-,rfl⟩:=AE.1 hb;exact⟨0,Jj,fun j hj=>by omega,Jj⟩
    ·cases hb
   ·cases ha
def By(cols row:U):U:=List.zipWith (fun k x=>k-x) cols row
def EB(cols row:U):Bool:=(List.zipWith (fun k x=>decide (x≤k)) cols row).all id
def EO(rows left:U):Bool:=if rows.length=0 then decide (AP left=0)else BF rows left
def BP:U→U→List I
 |[],_=>[[]]
 |r::rows,cols=>(Cl cols.length r).flatMap fun row=>if EB cols row&&EO rows (By cols row)then(BP rows (By cols row)).map (row:: ·)else[]
theorem Fi(h:row.length=cols.length):(By cols row).length=cols.length:=by
 unfold By;rw[List.length_zipWith,h,Nat.min_self]
theorem Ib(h:row.length=cols.length)(hj:j<cols.length):(By cols row).getD j 0=cols.getD j 0-row.getD j 0:=by
 unfold By;rw[B7 (x:=cols.getD j 0-row.getD j 0)];rw[List.getElem?_zipWith,BO 0 hj,BO 0 (by omega:j<row.length)]
theorem Hj(h:row.length=cols.length):EB cols row=true↔∀j,j<cols.length→0≤(By cols row).getD j 0:=by
 unfold EB;rw[Ar];constructor
 ·intro hx j hj;rw[Ib h hj];have:=hx (decide (row.getD j 0≤cols.getD j 0)) (List.mem_iff_getElem?.2 ⟨j,by rw[List.getElem?_zipWith,BO 0 hj,BO 0 (by omega:j<row.length)]⟩);simp only[id,Ah]at this;omega
 ·intro hx b hb;obtain⟨j,hj⟩:=List.getElem?_of_mem hb;have gY:=(A5.1 hj).1;rw[List.length_zipWith]at gY;have gz:j<cols.length:=J;rw[List.getElem?_zipWith,BO 0 gz,BO 0 (by omega:j<row.length)]at hj;have:=hx j gz;rw[Ib h gz]at this;simp only[Option.some.injEq]at hj;subst hj;simp only[id,Ah];omega
theorem Uw{r:Int}{rows:U}{g:I}(hl:row.length=cols.length):Da (r::rows) cols (rows.length+1) cols.length (row::g)↔((∀x∈row,0≤x∧x≤1)∧AP row=r)∧Da rows (By cols row) rows.length cols.length g:=by
 have jN:∀j,QX (row::g) j=row.getD j 0+QX g j:=fun j=>by unfold QX;rw[List.map_cons,BE]
 constructor
 ·rintro⟨⟨h1,h2⟩,h3,h4⟩;refine⟨⟨(h2 row Jj).2,by have:=h3 0 J;simpa using this⟩,⟨by simpa using h1,fun q hq=>h2 q (AL _ hq)⟩,fun i hi=>by have:=h3 (i+1) J;simpa using this,fun j hj=>?_⟩;rw[Ib hl hj];have:=h4 j hj;rw[jN]at this;omega
 ·rintro⟨⟨h1,h2⟩,⟨h3,h4⟩,h5,h6⟩;refine⟨⟨by simp[h3],fun q hq=>?_⟩,fun i hi=>?_,fun j hj=>?_⟩
  ·rcases List.mem_cons.1 hq with rfl|hq
   ·exact⟨hl,h1⟩
   ·exact h4 q hq
  ·cases i with
   |zero=>simpa using h2
   |succ i=>have:=h5 i J;simpa using this
  ·rw[jN,h6 j hj,Ib hl hj];omega
theorem IG{g:I}(h1:1≤xs.length)(h2:xs.length≤5)(h3:1≤ys.length)(h4:ys.length≤5)(hg:Da xs ys xs.length ys.length g):AT xs ys=true:=by
 obtain⟨hs,hr,hc⟩:=E7.1 hg;have key:∀(l:U)(n:Nat),(∀i,i<l.length→0≤l.getD i 0∧l.getD i 0≤n)→l.all (C1 0 n)=true:=by
  intro l n hl;rw[Ar];intro x hx;obtain⟨i,hi,rfl⟩:=List.getElem_of_mem hx;have:=hl i hi;rw[B7 (A3 hi)]at this;exact Ft this.1 this.2
 have e:AP xs=AP ys:=by
  rw[F9,F9,←B4 hr,←B4 hc];exact R3 _ _ _
 simp only[AT,Af,Ah,Bz];refine⟨⟨⟨⟨⟨J,J⟩,J,J⟩,key _ _ fun i hi=>?_⟩,key _ _ fun j hj=>?_⟩,e⟩
 ·rw[←hr i hi];refine⟨EL fun j _=>(AS hs i j).1,?_⟩;have:=Fm (n:=ys.length) (f:=fun j=>AJ g i j) (g:=fun _=>1) fun j _=>(AS hs i j).2;rw[Rr]at this;omega
 ·rw[←hc j hj];refine⟨EL fun i _=>(AS hs i j).1,?_⟩;have:=Fm (n:=xs.length) (f:=fun i=>AJ g i j) (g:=fun _=>1) fun i _=>(AS hs i j).2;rw[Rr]at this;omega
theorem MD:∀{rows cols:U}{g:I},rows.length≤5→1≤cols.length→cols.length≤5→(rows=[]→∀j,j<cols.length→cols.getD j 0=0)→(g∈BP rows cols↔Da rows cols rows.length cols.length g)
 |[],cols,g,_,_,_,h0=>by
  unfold BP;rw[List.mem_singleton];constructor
  ·rintro rfl;exact⟨⟨rfl,Jj⟩,fun i hi=>by simp at hi,fun j hj=>by rw[h0 rfl j hj];rfl⟩
  ·rintro⟨⟨h1,-⟩,-⟩;exact List.eq_nil_of_length_eq_zero h1
 |r::rows,cols,g,hr,hc1,hc5,_=>by
  unfold BP;rw[List.mem_flatMap];have j7:rows.length≤4:=by simpa using hr
  constructor
  ·rintro⟨row,aD,hg⟩;obtain⟨hl,hb,hs⟩:=G6.1 aD
   split at hg
   ·rename_i hcnd
    rw[Af]at hcnd;obtain⟨g',lq,rfl⟩:=AE.1 hg;have dN:=Fi hl;have cW:=(Hj hl).1 hcnd.1;have:=(MD (rows:=rows) (cols:=By cols row) J J J (fun e j hj=>by
     have h2:=hcnd.2;unfold EO at h2;rw[e]at h2;simp only[List.length_nil,if_true,Ah]at h2;rw[F9]at h2;have h3:=KQ hj (f:=fun i=>(By cols row).getD i 0) (fun i hi=>cW i J);have h4:=cW j J;omega)).1 lq
    rw[dN]at this;exact(Uw hl).2 ⟨⟨hb,hs⟩,this⟩
   ·cases hg
  ·intro hg;cases g with
   |nil=>exact absurd hg.1.1 Jj
   |cons row g=>
    have hl:=(hg.1.2 row Jj).1;obtain⟨⟨hb,hs⟩,lq⟩:=(Uw hl).1 hg;have dN:=Fi hl;refine⟨row,G6.2 ⟨hl,hb,hs⟩,?_⟩;have lj:∀j,j<cols.length→0≤(By cols row).getD j 0:=fun j hj=>by
     rw[←(E7.1 lq).2.2 j hj];exact EL fun i _=>(AS lq.1 i j).1
    have p8:rows=[]→∀j,j<(By cols row).length→(By cols row).getD j 0=0:=fun e j hj=>by
     have:=(E7.1 lq).2.2 j J;rw[e]at this;exact this.symm
    rw[←dN]at lq;have xZ:EO rows (By cols row)=true:=by
     unfold EO
     split
     ·rename_i e
      have e':rows=[]:=List.eq_nil_of_length_eq_zero e;rw[Ah,F9];exact Ks fun j hj=>p8 e' j hj
     ·rename_i e
      exact(JH (IG J J J J lq)).2 ⟨g,lq⟩
    rw[if_pos (by rw[Af];exact⟨(Hj hl).2 lj,xZ⟩)];exact AE.2 ⟨g,(MD J J J p8).2 lq,rfl⟩
theorem YB.cons{r c:Nat}{a b:I}(row:U)(h:YB r c a b):YB (r+1) c (row::a) (row::b):=by
 obtain⟨y,x,h1,h2,h3,h4⟩:=h;refine⟨y+1,x,J,h2,fun i j hij=>?_,by simpa[AJ]using h4⟩;cases i with
 |zero=>rfl
 |succ i=>have:=h3 i j J;simpa[AJ]using this
theorem Jg{β:Type}{R:β→β→Prop}{Q:α→α→Prop}(f:α→List β):∀(l:List α),l.Pairwise Q→(∀a∈l,(f a).Pairwise R)→(∀a∈l,∀b∈l,Q a b→∀x∈f a,∀y∈f b,R x y)→(l.flatMap f).Pairwise R
 |[],_,_,_=>by simp
 |a::l,h1,h2,h3=>by
  rw[List.pairwise_cons]at h1;rw[List.flatMap_cons,List.pairwise_append];refine⟨h2 a Jj,Jg f l h1.2 (fun b hb=>h2 b (AL _ hb)) (fun b hb b' kg=>h3 b (AL _ hb) b' (AL _ kg)),fun x hx y hy=>?_⟩;obtain⟨b,hb,hy⟩:=List.mem_flatMap.1 hy;exact h3 a Jj b (AL _ hb) (h1.1 b hb) x hx y hy
theorem Ms:∀(rows cols:U),(BP rows cols).Pairwise (YB rows.length cols.length)
 |[],_=>by unfold BP;simp
 |r::rows,cols=>by
  unfold BP;refine Jg (Q:=LLt) _ _ S7 (fun row aD=>?_) (fun a ha b hb gZ x hx y hy=>?_)
  ·have hl:=Fi (G6.1 aD).1
   split
   ·refine List.pairwise_map.2 ((Ms rows (By cols row)).imp fun h=>?_);rw[hl]at h;exact h.cons row
   ·exact List.Pairwise.nil
  ·split at hx
   ·split at hy
    ·obtain⟨g,-,rfl⟩:=AE.1 hx;obtain⟨h,-,rfl⟩:=AE.1 hy;obtain⟨k,h1,h2,h3⟩:=gZ;refine⟨0,k,Jj,by rw[←(G6.1 ha).1];exact h1,fun i j hij=>?_,by simpa[AJ]using h3⟩;have e:i=0∧j<k:=J;rw[e.1];have:=h2 j e.2;simpa[AJ]using this
    ·cases hy
   ·cases hx
theorem F2(h:AT xs ys=true):BP xs ys=BB xs ys:=by
 obtain⟨h1,h2,h3,h4,-⟩:=BG h;refine Uz (fun a=>YB.irrefl) (fun a b=>YB.asymm) (Ms xs ys) (Ma h) fun g=>?_;rw[MD h2 h3 h4 (fun e=>by rw[e]at h1;simp at h1),Dy h]
def CI(dx dy:Int):Bool:=C1 0 3 dx&&C1 (-3) 3 dy&&decide (Int.gcd dx dy=1)&&(decide (0<dx)||decide (dy=1))
def F7(c:Nat)(dx dy y x:Int):Int:=dx*y-dy*x+max 0 (dy*((c:Int)-1))
def Qh(r c:Nat)(dx dy:Int):Int:=max (F7 c dx dy ((r:Int)-1) 0) (F7 c dx dy ((r:Int)-1) ((c:Int)-1))+1
theorem FW(h:CI dx dy=true):0≤dx∧dx≤3∧-3≤dy∧dy≤3:=by
 simp only[CI,C1,Af,Ah]at h;omega
theorem GQ{r:Nat}(h:0≤dx∧dx≤3∧-3≤dy∧dy≤3){y x:Int}(ja:0≤y)(hy:y<r)(eR:0≤x)(hx:x<c):0≤F7 c dx dy y x∧F7 c dx dy y x<Qh r c dx dy:=by
 obtain⟨h1,h2,h3,h4⟩:=h;have e1:dx=0∨dx=1∨dx=2∨dx=3:=J;have e2:dy=-3∨dy=-2∨dy=-1∨dy=0∨dy=1∨dy=2∨dy=3:=J;unfold Qh F7;rcases e1 with rfl|rfl|rfl|rfl<;>rcases e2 with rfl|rfl|rfl|rfl|rfl|rfl|rfl<;>omega
theorem A3B{r:Nat}:Qh r c dx dy=F7 c dx dy ((r:Int)-1) 0+1∨Qh r c dx dy=F7 c dx dy ((r:Int)-1) ((c:Int)-1)+1:=by
 unfold Qh;omega
theorem Kr{r:Nat}(h:0≤dx∧dx≤3∧-3≤dy∧dy≤3)(hr1:1≤r)(hr:r≤5)(hc1:1≤c)(hc:c≤5):1≤Qh r c dx dy∧Qh r c dx dy≤25:=by
 obtain⟨h1,h2,h3,h4⟩:=h;have e1:dx=0∨dx=1∨dx=2∨dx=3:=J;have e2:dy=-3∨dy=-2∨dy=-1∨dy=0∨dy=1∨dy=2∨dy=3:=J;unfold Qh F7;rcases e1 with rfl|rfl|rfl|rfl<;>rcases e2 with rfl|rfl|rfl|rfl|rfl|rfl|rfl<;>omega
theorem A2g(c:Nat)(dx dy y x:Int):dx*y-dy*x-min 0 (-dy*((c:Int)-1))=F7 c dx dy y x:=by
 unfold F7;rw[Int.neg_mul];omega
def IN(l:U)(k:Nat)(v:Int):U:=l.set k (l.getD k 0+v)
def Gw(m:I)(c:Nat)(dx dy:Int)(y:Nat):Nat→U→U
 |0,l=>l
 |k+1,l=>Gw m c dx dy y k (IN l (F7 c dx dy y ((c-(k+1):Nat):Int)).toNat (AJ m y (c-(k+1))))
def Ef(m:I)(r c:Nat)(dx dy:Int):Nat→U→U
 |0,l=>l
 |k+1,l=>Ef m r c dx dy k (Gw m c dx dy (r-(k+1)) c l)
def BQ(m:I)(dx dy:Int):U:=
 if AC m=true∧CI dx dy=true then Ef m m.length (m.headD []).length dx dy m.length (List.replicate (Qh m.length (m.headD []).length dx dy).toNat 0)else[]
theorem Tb{m:I}(h:x<c)(l:U):
  Gw m c dx dy y (c-x) l=Gw m c dx dy y (c-(x+1)) (IN l (F7 c dx dy y x).toNat (AJ m y x)):=by
 have e:c-x=(c-(x+1))+1:=J;have e2:c-((c-(x+1))+1)=x:=J;rw[e,Gw,e2]
theorem Rp{m:I}{r:Nat}(h:y<r)(l:U):Ef m r c dx dy (r-y) l=Ef m r c dx dy (r-(y+1)) (Gw m c dx dy y c l):=by
 have e:r-y=(r-(y+1))+1:=J;have e2:r-((r-(y+1))+1)=y:=J;rw[e,Ef,e2]
theorem Kv(l:U)(k:Nat)(v:Int):(IN l k v).length=l.length:=List.length_set
def LG(b:Int)(l:U):Prop:=∀v∈l,0≤v∧v≤b
theorem LG.add{b:Int}(h:LG b l){k:Nat}(hk:k<l.length)(h0:0≤v)(h1:v≤1):LG (b+1) (IN l k v):=by
 intro w hw;unfold IN at hw;rcases List.mem_or_eq_of_mem_set hw with h2|rfl
 ·have:=h w h2;omega
 ·have:=h (l.getD k 0) (A4 (BO 0 hk));omega
theorem YU{m:I}{r:Nat}(hm:Ax r c m)(hd:0≤dx∧dx≤3∧-3≤dy∧dy≤3)(hy:y<r)(k:Nat):∀(l:U)(b:Int),k≤c→l.length=(Qh r c dx dy).toNat→LG b l→LG (b+k) (Gw m c dx dy y k l)∧(Gw m c dx dy y k l).length=l.length:=by
 induction k with
 |zero=>intro l b _ _ h;exact⟨by simpa[Gw]using h,rfl⟩
 |succ k ih=>
  intro l b hk hl h;rw[Gw];have hb:=AS hm y (c-(k+1));have hr:=GQ (r:=r) (c:=c) hd (y:=y) (x:=((c-(k+1):Nat):Int)) J J J J;have h2:=h.add (k:=(F7 c dx dy y ((c-(k+1):Nat):Int)).toNat) J hb.1 hb.2;obtain⟨h3,h4⟩:=ih _ (b+1) J (by rw[Kv];exact hl) h2;refine⟨?_,by rw[h4,Kv]⟩;have e:b+1+(k:Int)=b+((k+1:Nat):Int):=J;rw[e]at h3;exact h3
def blk(g:I):Nat:=(AP (g.map AP)).toNat
def isB(r c:Nat)(g:I)(y x:Int):Bool:=decide (0≤y)&&decide (y<r)&&decide (0≤x)&&decide (x<c)&&decide (AJ g y.toNat x.toNat=1)
def ED(r c:Nat):Nat→I→Int→Int→I
 |0,g,_,_=>g
 |k+1,g,y,x=>if isB r c g y x=true then ED r c k (ED r c k (ED r c k (ED r c k (setC g y.toNat x.toNat 0) (y-1) x) (y+1) x) y (x-1)) y (x+1)else g
theorem PG{r:Nat}{g:I}{y x:Int}(h:isB r c g y x=true):0≤y∧y.toNat<r∧0≤x∧x.toNat<c∧AJ g y.toNat x.toNat=1:=by
 simp only[isB,Af,Ah]at h;omega
theorem Qn(h:∀x∈l,0≤x):0≤AP l:=by
 induction l with
 |nil=>rw[Ge];omega
 |cons a l ih=>
  rw[BE];have h1:=h a List.mem_cons_self;have h2:=ih (fun x hx=>h x (AL _ hx));omega
theorem NS{r:Nat}{g:I}(h:Ax r c g):0≤AP (g.map AP):=by
 apply Qn;intro x hx;obtain⟨row,hr,rfl⟩:=AE.mp hx;exact Qn (fun v hv=>((h.2 row hr).2 v hv).1)
theorem VZ{r:Nat}{g:I}(h:Ax r c g){y x:Int}(hb:isB r c g y x=true):blk (setC g y.toNat x.toNat 0)+1=blk g:=by
 obtain⟨_,hy,_,hx,h1⟩:=PG hb;have hs:Ax r c (setC g y.toNat x.toNat 0):=EA h hy J J;have n1:=NS h;have n2:=NS hs;have e:AP ((setC g y.toNat x.toNat 0).map AP)=AP (g.map AP)-1:=by
  obtain⟨e1,e2⟩:=CM h hy;unfold setC;rw[List.map_set];have e3:(g.map AP)[y.toNat]? =some (AP (g.getD y.toNat [])):=by rw[Ak,e1];rfl
  rw[OE e3];have e4:(g.getD y.toNat [])[x.toNat]? =some (AJ g y.toNat x.toNat):=BO 0 J;rw[OE e4,h1];omega
 unfold blk;rw[e];omega
theorem A0b{b:Int}(h:∀x∈l,x≤b):AP l≤l.length*b:=by
 induction l with
 |nil=>rw[Ge];simp
 |cons a l ih=>
  rw[BE];have h1:=h a List.mem_cons_self;have h2:=ih (fun x hx=>h x (AL _ hx));have e:((a::l).length:Int)*b=l.length*b+b:=by
   rw[An,Int.natCast_add,Int.add_mul];omega
  omega
theorem A2f{r:Nat}{g:I}(h:Ax r c g):blk g≤r*c:=by
 have h1:AP (g.map AP)≤(g.map AP).length*(c:Int):=by
  apply A0b;intro x hx;obtain⟨row,hr,rfl⟩:=AE.mp hx;obtain⟨hl,hv⟩:=h.2 row hr;have:=A0b (b:=1) (fun v hm=>(hv v hm).2);omega
 rw[Ay,h.1]at h1;have h2:=NS h;unfold blk;have e:((r*c:Nat):Int)=(r:Int)*c:=Jj;omega
theorem FQ{r:Nat}:∀(k:Nat){g:I}(y x:Int),Ax r c g→Ax r c (ED r c k g y x)∧blk (ED r c k g y x)≤blk g:=by
 intro k;induction k with
 |zero=>intro g y x h;exact⟨h,A2 _⟩
 |succ k ih=>
  intro g y x h;rw[ED]
  split
  ·rename_i hb
   obtain⟨_,hy,_,hx,h1⟩:=PG hb;have s0:Ax r c (setC g y.toNat x.toNat 0):=EA h hy J J;have b0:=VZ h hb;obtain⟨s1,b1⟩:=ih (y-1) x s0;obtain⟨s2,b2⟩:=ih (y+1) x s1;obtain⟨s3,b3⟩:=ih y (x-1) s2;obtain⟨s4,b4⟩:=ih y (x+1) s3;exact⟨s4,J⟩
  ·exact⟨h,A2 _⟩
theorem MW{r:Nat}{g:I}{y x:Int}(h:¬isB r c g y x=true)(k:Nat):ED r c k g y x=g:=by
 cases k with
 |zero=>rfl
 |succ k=>rw[ED,if_neg h]
theorem WU{r:Nat}{g:I}{y x:Int}(h:isB r c g y x=true)(k:Nat):
  ED r c (k+1) g y x=ED r c k (ED r c k (ED r c k (ED r c k (setC g y.toNat x.toNat 0) (y-1) x) (y+1) x) y (x-1)) y (x+1):=by
 rw[ED,if_pos h]
def Gq(r c y:Nat):Nat→I×Int→I×Int
 |0,s=>s
 |k+1,s=>Gq r c y k (if AJ s.1 y (c-(k+1))=1 then(ED r c (r*c+1) s.1 y ((c-(k+1):Nat):Int),s.2+1)else s)
def Et(r c:Nat):Nat→I×Int→I×Int
 |0,s=>s
 |k+1,s=>Et r c k (Gq r c (r-(k+1)) c s)
def Cz(m:I):Int:=if AC m=true then(Et m.length (m.headD []).length m.length (m,0)).2 else-1
theorem Qu{r:Nat}(h:x<c)(s:I×Int):
  Gq r c y (c-x) s=Gq r c y (c-(x+1)) (if AJ s.1 y x=1 then(ED r c (r*c+1) s.1 y x,s.2+1)else s):=by
 have e:c-x=(c-(x+1))+1:=J;have e2:c-((c-(x+1))+1)=x:=J;rw[e,Gq,e2]
theorem Qm{r:Nat}(h:y<r)(s:I×Int):Et r c (r-y) s=Et r c (r-(y+1)) (Gq r c y c s):=by
 have e:r-y=(r-(y+1))+1:=J;have e2:r-((r-(y+1))+1)=y:=J;rw[e,Et,e2]
def kl(w:U)(a b:Nat):Prop:=w.getD b 0<w.getD a 0∨w.getD a 0=w.getD b 0∧a<b
theorem Pg{a:Nat}(h:kl w a b):¬kl w b a:=by unfold kl at*;omega
theorem A28{a:Nat}(h:kl w a b)(h2:kl w b c):kl w a c:=by unfold kl at*;omega
def Ug(w:U)(c:Nat)(l:List Nat):Prop:=l.Perm (List.range c)∧l.Pairwise (kl w)
theorem Ug.eq{a b:List Nat}(ha:Ug w c a)(hb:Ug w c b):a=b:=
 (ha.1.trans hb.1.symm).eq_of_pairwise (fun _ _ _ _ h1 h2=>absurd h2 (Pg h1)) ha.2 hb.2
def klB(w:U)(a b:Nat):Bool:=decide (w.getD b 0<w.getD a 0)||decide (w.getD a 0=w.getD b 0)&&decide (a≤b)
def Ly(w:U)(c:Nat):List Nat:=(List.range c).mergeSort (klB w)
theorem PI(w:U)(c:Nat):Ug w c (Ly w c):=by
 have hp:(Ly w c).Perm (List.range c):=List.mergeSort_perm _ _;have hs:(Ly w c).Pairwise (fun a b=>klB w a b=true):=by
  apply List.pairwise_mergeSort
  ·intro a b c h1 h2;simp only[klB,Bool.or_eq_true,Af,Ah]at*;omega
  ·intro a b;simp only[klB,Bool.or_eq_true,Af,Ah];omega
 have hn:(Ly w c).Nodup:=hp.nodup_iff.mpr List.nodup_range;refine⟨hp,?_⟩;have:=hs.and hn;refine this.imp ?_;intro a b ⟨h1,h2⟩;simp only[klB,Bool.or_eq_true,Af,Ah]at h1;unfold kl;omega
theorem Ug.length{l:List Nat}(h:Ug w c l):l.length=c:=by rw[h.1.length_eq,List.length_range]
theorem Ug.nodup{l:List Nat}(h:Ug w c l):l.Nodup:=h.1.nodup_iff.mpr List.nodup_range
theorem Ug.mem{l:List Nat}(h:Ug w c l)(x:Nat):x∈l↔x<c:=by rw[h.1.mem_iff,AG]
theorem Ug.lt{l:List Nat}(h:Ug w c l)(hx:l[i]? =some x):x<c:=(h.mem x).mp (A4 hx)
theorem Ug.next{l:List Nat}(h:Ug w c l)(hb:b<c)(hn:b∉l.take i)(hm:∀x,x<c→x∉l.take i→x=b∨kl w b x):l[i]? =some b:=by
 have hi:i<l.length:=by
  rcases Nat.lt_or_ge i l.length with hi|hi
  ·exact hi
  ·rw[A9 hi]at hn;exact absurd ((h.mem b).mpr hb) hn
 have h2:l[i]∉l.take i:=by
  intro hc;obtain⟨j,hj,e⟩:=List.mem_take_iff_getElem.mp hc;have gz:j<l.length:=J;have hq:kl w l[j] l[i]:=List.pairwise_iff_getElem.mp h.2 j i gz hi J;rw[e]at hq;exact Pg hq hq
 rcases hm l[i] (h.lt (A3 hi)) h2 with e|hk
 ·rw[A3 hi,e]
 ·exfalso;obtain⟨j,hj,e⟩:=List.getElem_of_mem ((h.mem b).mpr hb);have hji:i≤j:=by
   rcases Nat.lt_or_ge j i with aF|hge
   ·exact absurd (List.mem_take_iff_getElem.mpr ⟨j,J,e⟩) hn
   ·exact hge
  rcases Nat.lt_or_ge i j with aF|hge
  ·have:=List.pairwise_iff_getElem.mp h.2 i j hi hj aF;rw[e]at this;exact Pg this hk
  ·have:i=j:=J;subst this;rw[e]at hk;exact Pg hk hk
def Jr(c:Nat)(s:List Nat):U:=(List.range c).map fun x=>if x∈s then 1 else 0
def DH(w:U)(n:Nat):U:=Jr w.length ((Ly w w.length).take n)
def D7(w row:U):U:=(List.range w.length).map fun x=>w.getD x 0-row.getD x 0
def N4:U→U→I
 |[],_=>[]
 |n::rs,w=>DH w n.toNat::N4 rs (D7 w (DH w n.toNat))
theorem VB(h:x<c)(s:List Nat):(Jr c s).getD x 0=if x∈s then 1 else 0:=by
 apply B7;unfold Jr;rw[Ak,AA h];rfl
theorem ON(c:Nat)(s:List Nat):(Jr c s).length=c:=by simp[Jr]
theorem A0s(c:Nat):Jr c []=List.replicate c 0:=by
 apply List.ext_getElem?;intro i;unfold Jr;rcases Nat.lt_or_ge i c with h|h
 ·rw[Ak,AA h,List.getElem?_replicate,if_pos h];simp
 ·rw[Am (by simpa using h),Am (by simpa using h)]
theorem A0d(s:List Nat)(_hb:b<c):(Jr c s).set b 1=Jr c (s++[b]):=by
 apply List.ext_getElem?;intro i;unfold Jr;rcases Nat.lt_or_ge i c with h|h
 ·rw[Ak,AA h,List.getElem?_set];by_cases gj:b=i
  ·rw[if_pos gj,if_pos (by simpa using _hb)];simp[gj]
  ·rw[if_neg gj,Ak,AA h];have:¬i=b:=fun e=>gj e.symm;simp[this]
 ·rw[Am (by simpa using h),Am (by simpa using h)]
theorem Ut(w:U):D7 w (Jr w.length [])=w:=by
 apply List.ext_getElem?;intro i;unfold D7;rcases Nat.lt_or_ge i w.length with h|h
 ·rw[Ak,AA h,Option.map_some,VB h,BO 0 h];simp
 ·rw[Am (by simpa using h),Am h]
theorem UA{s:List Nat}(hb:b<w.length)(hn:b∉s):
  (D7 w (Jr w.length s)).set b ((D7 w (Jr w.length s)).getD b 0-1)=D7 w (Jr w.length (s++[b])):=by
 have e:∀(t:List Nat){i:Nat},i<w.length→(D7 w (Jr w.length t))[i]? =some (w.getD i 0-if i∈t then 1 else 0):=by
  intro t i hi;unfold D7;rw[Ak,AA hi,Option.map_some,VB hi]
 have el:∀t,(D7 w (Jr w.length t)).length=w.length:=by intro t;simp[D7]
 apply List.ext_getElem?;intro i;rcases Nat.lt_or_ge i w.length with h|h
 ·rw[List.getElem?_set,e _ h];by_cases gj:b=i
  ·subst gj;rw[if_pos rfl,if_pos (by rw[el];exact hb),B7 (e s hb),if_neg hn,e _ h,if_pos Jj];simp
  ·rw[if_neg gj,e _ h];have h3:¬i=b:=fun e=>gj e.symm;simp[h3]
 ·rw[Am (by rw[List.length_set,el];exact h),Am (by rw[el];exact h)]
theorem PJ{l:List Nat}(h:l[i]? =some b):l.take (i+1)=l.take i++[b]:=by
 rw[Ao,h];rfl
def JQ(P:List Nat)(j i:Nat):List Nat:=P.take j++i::P.drop j
theorem VL(A:List α)(x y:α)(B:List α):(A++x::B).set A.length y=A++y::B:=by
 induction A with
 |nil=>rfl
 |cons a A ih=>show a::(A++x::B).set A.length y=_;rw[ih];rfl
theorem T9(h:P[j]? =some p):(P.take j).length=j∧P.take (j+1)=P.take j++[p]∧P.drop j=p::P.drop (j+1):=by
 obtain⟨hj,rfl⟩:=A5.1 h;refine⟨by rw[At];omega,?_,List.drop_eq_getElem_cons hj⟩;rw[Ao,h];rfl
theorem SK(h:j≤P.length):(JQ P j i).length=P.length+1:=by
 unfold JQ;rw[Ad,An,At,List.length_drop];omega
theorem A3M(h:j≤P.length):(JQ P j i)[j]? =some i:=by
 unfold JQ;have h1:(P.take j).length=j:=by rw[At];omega
 rw[List.getElem?_append_right J,h1,Nat.sub_self];rfl
theorem A12(h:P[j]? =some p):(JQ P (j+1) i)[j]? =some p:=by
 unfold JQ;obtain⟨h1,h2,-⟩:=T9 h;rw[Aq (by rw[h2,Ad,h1];simp),List.getElem?_take,if_pos J,h]
theorem A1L(h:P[j]? =some p)(R:List Nat):((JQ P (j+1) i++R).set (j+1) p).set j i=JQ P j i++R:=by
 unfold JQ;obtain⟨h1,h2,h3⟩:=T9 h;rw[h2,h3];have e1:P.take j++[p]++i::P.drop (j+1)++R=(P.take j++[p])++i::(P.drop (j+1)++R):=Jj;have e2:j+1=(P.take j++[p]).length:=by rw[Ad,h1];rfl
 rw[e1];have e3:((P.take j++[p])++i::(P.drop (j+1)++R)).set (j+1) p=(P.take j++[p])++p::(P.drop (j+1)++R):=by
  have:=VL (P.take j++[p]) i p (P.drop (j+1)++R);rw[←e2]at this;exact this
 rw[e3];have e4:(P.take j++[p])++p::(P.drop (j+1)++R)=P.take j++p::(p::(P.drop (j+1)++R)):=Jj;rw[e4];have e5:(P.take j++p::(p::(P.drop (j+1)++R))).set j i=P.take j++i::(p::(P.drop (j+1)++R)):=by
  have:=VL (P.take j) p i (p::(P.drop (j+1)++R));rw[h1]at this;exact this
 rw[e5];simp
theorem Y8(hp:Ug w i P)(h1:∀q∈P.drop j,w.getD q 0<w.getD i 0)(h2:j=0∨∃p,P[j-1]? =some p∧w.getD i 0≤w.getD p 0):Ug w (i+1) (JQ P j i):=by
 refine⟨?_,?_⟩
 ·have e:(JQ P j i).Perm (i::P):=by
   unfold JQ;refine List.perm_middle.trans ?_;rw[List.take_append_drop]
  refine e.trans ?_;rw[List.range_succ];refine(List.Perm.cons i hp.1).trans ?_;exact(List.perm_append_singleton i (List.range i)).symm
 ·have hd:=hp.2;rw[←List.take_append_drop j P,List.pairwise_append]at hd;obtain⟨d1,d2,d3⟩:=hd;unfold JQ;rw[List.pairwise_append];refine⟨d1,?_,?_⟩
  ·rw[List.pairwise_cons];exact⟨fun q hq=>.inl (h1 q hq),d2⟩
  ·intro a ha b hb;rw[List.mem_cons]at hb;rcases hb with rfl|hb
   ·obtain⟨t,ht,e⟩:=List.mem_take_iff_getElem.mp ha;rcases h2 with rfl|⟨p,hp1,jj⟩
    ·omega
    ·have pK:a<b:=(hp.mem a).mp (List.mem_of_mem_take ha);obtain⟨gY,hpe⟩:=A5.1 hp1;rcases Nat.lt_or_ge t (j-1)with aF|hge
     ·have hk:=List.pairwise_iff_getElem.mp hp.2 t (j-1) J gY aF;rw[e,hpe]at hk;unfold kl at*;omega
     ·have:t=j-1:=J;subst this;rw[hpe]at e;subst e;unfold kl;omega
   ·exact d3 a ha b hb
def HJ(i c:Nat):List Nat:=(List.range (c-i)).map (· +i)
theorem SX(h:i<c):HJ i c=i::HJ (i+1) c:=by
 unfold HJ;have e:c-i=(c-(i+1))+1:=J;rw[e,List.range_succ_eq_map,List.map_cons,List.map_map];simp only[Nat.zero_add,List.cons.injEq,true_and];apply List.map_congr_left;intro a _;show a+1+i=a+(i+1);omega
theorem A1p(i c:Nat):(HJ i c).length=c-i:=by simp[HJ]
theorem Zq(c:Nat):HJ c c=[]:=by simp[HJ]
theorem YF(c:Nat):HJ 0 c=List.range c:=by simp[HJ]
def Ih:U→U→Nat→U
 |_,w,0=>w
 |[],w,_+1=>w
 |n::rs,w,k+1=>Ih rs (D7 w (DH w n.toNat)) k
theorem PE:∀{rows:U}{w:U}{k:Nat}{n:Int},rows[k]? =some n→Ih rows w (k+1)=D7 (Ih rows w k) (DH (Ih rows w k) n.toNat)
 |[],_,_,_,h=>by simp at h
 |a::rs,w,0,n,h=>by
  have:a=n:=by simpa using h
  subst this;cases rs<;>rfl
 |a::rs,w,k+1,n,h=>by
  have h':rs[k]? =some n:=by simpa using h
  exact PE (rows:=rs) (w:=D7 w (DH w a.toNat)) h'
theorem ZG:∀{rows:U}{w:U}{k:Nat}{n:Int},rows[k]? =some n→(N4 rows w)[k]? =some (DH (Ih rows w k) n.toNat)
 |[],_,_,_,h=>by simp at h
 |a::rs,w,0,n,h=>by
  have:a=n:=by simpa using h
  subst this;rfl
 |a::rs,w,k+1,n,h=>by
  have h':rs[k]? =some n:=by simpa using h
  show(N4 rs (D7 w (DH w a.toNat)))[k]? =_;rw[ZG h'];rfl
theorem OJ:∀(rows w:U),(N4 rows w).length=rows.length
 |[],_=>rfl
 |a::rs,w=>by show(N4 rs _).length+1=rs.length+1;rw[OJ rs]
theorem Kp(w row:U):(D7 w row).length=w.length:=by simp[D7]
theorem RD:∀(rows w:U)(k:Nat),(Ih rows w k).length=w.length
 |_,_,0=>by unfold Ih;rfl
 |[],_,_+1=>rfl
 |a::rs,w,k+1=>by show(Ih rs _ k).length=_;rw[RD rs,Kp]
theorem T7{a b:Int}(h:∀x∈w,a≤x∧x≤b)(hr:∀i,0≤row.getD i 0∧row.getD i 0≤1):∀x∈D7 w row,a-1≤x∧x≤b:=by
 intro x hx;unfold D7 at hx;rw[AE]at hx;obtain⟨i,hi,rfl⟩:=hx;rw[AG]at hi;have h1:=h (w.getD i 0) (A4 (BO 0 hi));have h2:=hr i;omega
theorem Wp(c:Nat)(s:List Nat)(i:Nat):0≤(Jr c s).getD i 0∧(Jr c s).getD i 0≤1:=by
 rcases Nat.lt_or_ge i c with h|h
 ·rw[VB h];split<;>omega
 ·rw[List.getD_eq_getElem?_getD,Am (by rw[ON];exact h)];simp
theorem WB:∀(rows w:U)(k:Nat){a b:Int},(∀x∈w,a≤x∧x≤b)→∀x∈Ih rows w k,a-k≤x∧x≤b
 |_,_,0,_,_,h=>by unfold Ih;intro x hx;have:=h x hx;omega
 |[],_,k+1,_,_,h=>by show ∀x∈_,_;intro x hx;have:=h x hx;omega
 |n::rs,w,k+1,a,b,h=>by
  intro x hx;have:=WB rs (D7 w (DH w n.toNat)) k (T7 h (fun i=>Wp _ _ i)) x hx;omega
def FE(d:I→Int):List I→I→I
 |[],b=>b
 |m::l,b=>FE d l (if d m<d b then m else b)
def Xk(d:I→Int)(l:List I):Option I:=
 match l with
 |[]=>none
 |a::t=>some (FE d t a)
theorem Vr(d:I→Int)(a:I)(t:List I):FE d (a::t) a=FE d t a:=by
 rw[FE,if_neg J]
theorem Me{d:I→Int}{l:List I}{k:Nat}{m b:I}(h:l[k]? =some m):FE d (l.drop k) b=FE d (l.drop (k+1)) (if d m<d b then m else b):=by
 have hk:k<l.length:=by
  rcases Nat.lt_or_ge k l.length with h1|h1
  ·exact h1
  ·rw[Am h1]at h;exact absurd h Jj
 rw[List.drop_eq_getElem_cons hk,FE];rw[A3 hk]at h;rw[Option.some.inj h]

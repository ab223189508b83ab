/- Base. -/
import Derived.Test.YthmocomfjgmjoaaGreatDoorQ02
namespace Go.Proofs.YthmocomfjgmjoaaGreatDoor
theorem AL{α:Type}{l:List α}{i:Nat}{x d:α}(h:l[i]? =some x):l.getD i d=x:=by rw[List.getD_eq_getElem?_getD,h];rfl
theorem FX{α:Type}{l:List α}{i:Nat}{d:α}(h:l.length≤i):l.getD i d=d:=by rw[List.getD_eq_getElem?_getD,List.getElem?_eq_none h];rfl
theorem J1{α:Type}{l:List α}{i:Nat}{v d:α}(h:i<l.length):(l.set i v).getD i d=v:=AL (List.getElem?_set_self h)
theorem RH{α:Type}{l:List α}{i j:Nat}{v d:α}(h:i≠j):(l.set i v).getD j d=l.getD j d:=by rw[List.getD_eq_getElem?_getD,List.getElem?_set_ne h,←List.getD_eq_getElem?_getD]
theorem BE{α:Type}{l:List α}{i:Nat}(d:α)(h:i<l.length):l[i]? =some (l.getD i d):=by rw[List.getElem?_eq_getElem h,AL (List.getElem?_eq_getElem h)]
def Al(m:List (List Int))(i j:Nat):Int:=(m.getD i []).getD j 0
def setC(m:List (List Int))(y x:Nat)(v:Int):List (List Int):=m.set y ((m.getD y []).set x v)
def QD(m:List (List Int))(j:Nat):Int:=Ay (m.map fun row=>row.getD j 0)
theorem Bs(a:Int)(l:List Int):Ay (a::l)=a+Ay l:=by
 have h:∀(l:List Int)(b:Int),l.foldl (· + ·) b=b+l.foldl (· + ·) 0:=by
  intro l;induction l with
  |nil=>intro b;simp
  |cons c l ih=>intro b;rw[List.foldl_cons,List.foldl_cons,ih,ih (0+c)];omega
 show(a::l).foldl (· + ·) 0=a+l.foldl (· + ·) 0;rw[List.foldl_cons,h];omega
theorem G8:Ay []=0:=rfl
theorem Ye(a b:List Int):Ay (a++b)=Ay a+Ay b:=by
 induction a with
 |nil=>rw[List.nil_append,G8];omega
 |cons x a ih=>rw[List.cons_append,Bs,Bs,ih];omega
theorem Of{l:List Int}{k:Nat}{x:Int}(h:l[k]? =some x)(v:Int):Ay (l.set k v)=Ay l-x+v:=by
 induction l generalizing k with
 |nil=>simp at h
 |cons a l ih=>
  cases k with
  |zero=>simp at h;subst h;rw[List.set_cons_zero,Bs,Bs];omega
  |succ k=>rw[List.set_cons_succ,Bs,Bs,ih (by simpa using h)];omega
theorem Mk{l:List Int}(h:∀i,l.getD i 0=0):Ay l=0:=by
 induction l with
 |nil=>rfl
 |cons a l ih=>
  rw[Bs];have h0:=h 0;have:=ih (fun i=>by have:=h (i+1);simpa using this);simp at h0;omega
theorem UU{l:List Int}(h:∀i,i<l.length→0≤l.getD i 0∧l.getD i 0≤1):0≤Ay l∧Ay l≤l.length:=by
 induction l with
 |nil=>exact⟨Int.le_refl _,by rw[G8];exact Int.natCast_nonneg _⟩
 |cons a l ih=>
  have h0:=h 0 (by simp);have:=ih (fun i hi=>by have:=h (i+1) (by simpa using hi);simpa using this);simp at h0;rw[Bs,List.length_cons];omega
theorem Uh{a b:List Int}(hl:a.length=b.length):∀{k:Nat},(∀i,i<k→a.getD i 0=b.getD i 0)→(∀i,k≤i→b.getD i 0=0)→(∀i,i<a.length→0≤a.getD i 0∧a.getD i 0≤1)→k<a.length→
  (a.getD k 0=0→0≤Ay a-Ay b∧Ay a-Ay b≤(a.length:Int)-k-1)∧(a.getD k 0=1→1≤Ay a-Ay b):=by
 induction a generalizing b with
 |nil=>intro k _ _ _ hk;simp at hk
 |cons x a ih=>
  cases b with
  |nil=>simp at hl
  |cons y b=>
   intro k h1 h2 h3 hk;have hl:a.length=b.length:=by simpa using hl
   have eS:∀i,i<a.length→0≤a.getD i 0∧a.getD i 0≤1:=fun i hi=>by
    have:=h3 (i+1) (by simpa using hi);simpa using this
   rw[Bs,Bs,List.length_cons];cases k with
   |zero=>
    have e0:=h2 0 (Nat.le_refl _);simp at e0;have ez:Ay b=0:=Mk fun i=>by have:=h2 (i+1) (Nat.zero_le _);simpa using this
    have hb:=UU eS;constructor
    ·intro hx;simp at hx;omega
    ·intro hx;simp at hx;omega
   |succ k=>
    have e0:=h1 0 (Nat.succ_pos _);simp at e0;have:=@ih b hl k (fun i hi=>by have:=h1 (i+1) (by omega);simpa using this) (fun i hi=>by have:=h2 (i+1) (by omega);simpa using this) eS (by simpa using hk);constructor
    ·intro hx;have:=this.1 (by simpa using hx);omega
    ·intro hx;have:=this.2 (by simpa using hx);omega
theorem Cv{m:List (List Int)}{r c y:Nat}(h:Ac r c m)(hy:y<r):m[y]? =some (m.getD y [])∧(m.getD y []).length=c:=by
 obtain⟨row,hr,hl,-⟩:=h.row hy;rw[AL hr];exact⟨hr,hl⟩
theorem AE{m:List (List Int)}{r c:Nat}(h:Ac r c m)(i j:Nat):0≤Al m i j∧Al m i j≤1:=by
 unfold Al;by_cases hi:i<r
 ·obtain⟨row,hr,hl,hb⟩:=h.row hi;rw[AL hr];by_cases hj:j<row.length
  ·have:=hb _ (List.getElem_mem hj);rw[AL (List.getElem?_eq_getElem hj)];exact this
  ·rw[FX (by omega)];omega
 ·rw[FX (l:=m) (by rw[h.1];omega)];exact⟨Int.le_refl _,by simp⟩
theorem El{m:List (List Int)}{r c y x:Nat}(h:Ac r c m)(hy:y<r){v:Int}(h0:0≤v)(h1:v≤1):Ac r c (setC m y x v):=h.set (Cv h hy).1 h0 h1
theorem RY{m:List (List Int)}{r c y x:Nat}(h:Ac r c m)(hy:y<r)(v:Int)(i:Nat):(setC m y x v).getD i []=if i=y then(m.getD y []).set x v else m.getD i []:=by
 unfold setC;have li:y<m.length:=by rw[h.1];exact hy
 by_cases hi:i=y
 ·subst hi;rw[if_pos rfl,J1 li]
 ·rw[if_neg hi,RH (by omega)]
theorem GR{m:List (List Int)}{r c y x:Nat}(h:Ac r c m)(hy:y<r)(hx:x<c)(v:Int)(i j:Nat):Al (setC m y x v) i j=if i=y∧j=x then v else Al m i j:=by
 unfold Al;rw[RY h hy];have hl:=(Cv h hy).2;by_cases hi:i=y
 ·subst hi;rw[if_pos rfl];by_cases hj:j=x
  ·subst hj;rw[if_pos ⟨rfl,rfl⟩,J1 (by omega)]
  ·rw[if_neg (fun h=>hj h.2),RH (by omega)]
 ·rw[if_neg hi,if_neg (fun h=>hi h.1)]
theorem A2l{m:List (List Int)}{r c y x:Nat}(h:Ac r c m)(hy:y<r)(hx:x<c){v:Int}(ug:0≤v)(uh:v≤1)(hz:Al m y x=0):setC (setC m y x v) y x 0=m:=by
 have h2:=El (x:=x) h hy ug uh;refine(El h2 hy (by decide) (by decide)).ext h fun i j hi hj=>?_;show Al _ i j=Al m i j;rw[GR h2 hy hx,GR h hy hx];by_cases he:i=y∧j=x
 ·rw[if_pos he,he.1,he.2,hz]
 ·rw[if_neg he,if_neg he]
theorem KO{m:List (List Int)}{r c j:Nat}(_h:Ac r c m):∀i,(m.map fun row=>row.getD j 0).getD i 0=Al m i j:=by
 intro i;unfold Al;cases hi:m[i]? with
 |none=>
  have:=List.getElem?_eq_none_iff.1 hi;rw[FX (by rw[List.length_map];exact this),FX (l:=m) this,FX (by simp)]
 |some row=>rw[AL (l:=m) hi,AL (x:=row.getD j 0)];rw[List.getElem?_map,hi];rfl
theorem A44{m:List (List Int)}{r c y x:Nat}(h:Ac r c m)(hy:y<r)(hx:x<c)(v:Int)(j:Nat):QD (setC m y x v) j=if j=x then QD m j-Al m y x+v else QD m j:=by
 unfold QD setC;rw[List.map_set];have aG:=Cv h hy;have e:(m.map fun row=>row.getD j 0)[y]? =some (Al m y j):=by
  rw[List.getElem?_map,aG.1];rfl
 rw[Of e];by_cases hj:j=x
 ·subst hj;rw[if_pos rfl,J1 (by omega)]
 ·rw[if_neg hj,RH (by omega)];unfold Al;omega
def A5k(g m:List (List Int))(y x:Nat):Prop:=∀i j,(i<y∨i=y∧j<x)→Al g i j=Al m i j
def Zk(r c:Nat)(a b:List (List Int)):Prop:=∃y x,y<r∧x<c∧A5k a b y x∧Al a y x<Al b y x
def NP(r c:Nat)(k:Nat→Nat→Int→List Int→List (List Int)→List (List (List Int)))(y x:Nat)(Bn:Int)(left:List Int)(m:List (List Int)):List (List (List Int)):=
 (if Bn≤(c:Int)-x-1∧left.getD x 0≤(r:Int)-y-1 then k y (x+1) Bn left m else[])++
 (if 0<Bn∧0<left.getD x 0 then k y (x+1) (Bn-1) (left.set x (left.getD x 0-1)) (setC m y x 1) else[])
def Qt(xs:List Int)(r c:Nat):Nat→Nat→Nat→Int→List Int→List (List Int)→List (List (List Int))
 |0,_,_,_,_,_=>[]
 |f+1,y,x,Bn,left,m=>
  if x=c then(if 0<Bn then[] else if y+1=r then[m] else NP r c (Qt xs r c f) (y+1) 0 (xs.getD (y+1) 0) left m)
  else NP r c (Qt xs r c f) y x Bn left m
structure JK(xs ys:List Int)(r c y x:Nat)(Bn:Int)(left:List Int)(m:List (List Int)):Prop where
 sh:Ac r c m
 zero:∀i j,(y<i∨i=y∧x≤j)→Al m i j=0
 rows:∀i,i<y→Ay (m.getD i [])=xs.getD i 0
 needE:Bn=xs.getD y 0-Ay (m.getD y [])
 ll:left.length=c
 leftE:∀j,j<c→left.getD j 0=ys.getD j 0-QD m j
 need0:0≤Bn∧Bn≤(c:Int)-x
 left0:∀j,j<c→0≤left.getD j 0∧left.getD j 0≤(r:Int)-y-(if j<x then 1 else 0)
 hx:∀i,i<r→0≤xs.getD i 0∧xs.getD i 0≤c
def CY(xs ys:List Int)(r c:Nat)(g:List (List Int)):Prop:=Ac r c g∧(∀i,i<r→Ay (g.getD i [])=xs.getD i 0)∧∀j,j<c→QD g j=ys.getD j 0
def A4r(xs ys:List Int)(r c y x:Nat)(m g:List (List Int)):Prop:=CY xs ys r c g∧A5k g m y x
theorem JK.white{xs ys:List Int}{r c y x:Nat}{Bn:Int}{left:List Int}{m:List (List Int)}(h:JK xs ys r c y x Bn left m)(hn:Bn≤(c:Int)-x-1)(hl:left.getD x 0≤(r:Int)-y-1):JK xs ys r c y (x+1) Bn left m:=by
 refine⟨h.sh,fun i j hij=>h.zero i j (by omega),h.rows,h.needE,h.ll,h.leftE,⟨h.need0.1,by have:=h.need0;push_cast;omega⟩,fun j hj=>?_,h.hx⟩;obtain⟨h1,h2⟩:=h.left0 j hj;refine⟨h1,?_⟩;by_cases hjx:j<x
 ·rw[if_pos hjx] at h2;rw[if_pos (by omega)];exact h2
 ·by_cases rP:j=x
  ·subst rP;rw[if_pos (by omega)];exact hl
  ·rw[if_neg hjx] at h2;rw[if_neg (by omega)];exact h2
theorem JK.black{xs ys:List Int}{r c y x:Nat}{Bn:Int}{left:List Int}{m:List (List Int)}(h:JK xs ys r c y x Bn left m)(hy:y<r)(hx:x<c)(hn:0<Bn)(hl:0<left.getD x 0):
  JK xs ys r c y (x+1) (Bn-1) (left.set x (left.getD x 0-1)) (setC m y x 1):=by
 have hz:Al m y x=0:=h.zero y x (.inr ⟨rfl,Nat.le_refl _⟩);have hr:=Cv h.sh hy;refine⟨El h.sh hy (by decide) (by decide),fun i j hij=>?_,fun i hi=>?_,?_,by rw[List.length_set,h.ll],fun j hj=>?_,⟨by omega,by have:=h.need0;push_cast;omega⟩,fun j hj=>?_,h.hx⟩
 ·rw[GR h.sh hy hx,if_neg (by omega)];exact h.zero i j (by omega)
 ·rw[RY h.sh hy,if_neg (by omega)];exact h.rows i hi
 ·rw[RY h.sh hy,if_pos rfl];have e:(m.getD y [])[x]? =some (Al m y x):=by
   exact BE 0 (by omega)
  rw[Of e,hz];have:=h.needE;omega
 ·rw[A44 h.sh hy hx,hz];have:=h.leftE j hj;by_cases hjx:j=x
  ·subst hjx;rw[if_pos rfl,J1 (by rw[h.ll];exact hj)];omega
  ·rw[if_neg hjx,RH (by omega)];exact this
 ·obtain⟨h1,h2⟩:=h.left0 j hj;by_cases hjx:j=x
  ·subst hjx;rw[J1 (by rw[h.ll];exact hj)];rw[if_pos (by omega)];rw[if_neg (by omega)] at h2;omega
  ·rw[RH (by omega)];refine⟨h1,?_⟩;by_cases gC:j<x
   ·rw[if_pos gC] at h2;rw[if_pos (by omega)];exact h2
   ·rw[if_neg gC] at h2;rw[if_neg (by omega)];exact h2
theorem JK.next{xs ys:List Int}{r c y:Nat}{Bn:Int}{left:List Int}{m:List (List Int)}(h:JK xs ys r c y c Bn left m)(hy:y+1<r):JK xs ys r c (y+1) 0 (xs.getD (y+1) 0) left m:=by
 have h0:=h.need0;refine⟨h.sh,fun i j hij=>h.zero i j (by omega),fun i hi=>?_,?_,h.ll,h.leftE,?_,fun j hj=>?_,h.hx⟩
 ·by_cases hiy:i<y
  ·exact h.rows i hiy
  ·obtain rfl:i=y:=by omega
   have:=h.needE;omega
 ·have:Ay (m.getD (y+1) [])=0:=Mk fun j=>h.zero (y+1) j (.inl (by omega));omega
 ·have:=h.hx (y+1) hy;exact⟨this.1,by push_cast;omega⟩
 ·obtain⟨h1,h2⟩:=h.left0 j hj;rw[if_pos hj] at h2;exact⟨h1,by rw[if_neg (by omega)];push_cast;omega⟩
theorem CY.guard{xs ys:List Int}{r c y x:Nat}{Bn:Int}{left:List Int}{m g:List (List Int)}(h:JK xs ys r c y x Bn left m)(hy:y<r)(hx:x<c)(hg:A4r xs ys r c y x m g):
  (Al g y x=0→Bn≤(c:Int)-x-1∧left.getD x 0≤(r:Int)-y-1)∧(Al g y x=1→0<Bn∧0<left.getD x 0):=by
 obtain⟨⟨gs,gr,gc⟩,ga⟩:=hg;have aG:=Cv h.sh hy;have grow:=Cv gs hy;have t1:=Uh (a:=g.getD y []) (b:=m.getD y []) (by rw[aG.2,grow.2]) (k:=x) (fun i hi=>ga y i (.inr ⟨rfl,hi⟩)) (fun i hi=>h.zero y i (.inr ⟨rfl,hi⟩)) (fun i _=>AE gs y i) (by rw[grow.2];exact hx);have t2:=Uh (a:=g.map fun row=>row.getD x 0) (b:=m.map fun row=>row.getD x 0) (by rw[List.length_map,List.length_map,gs.1,h.sh.1]) (k:=y) (fun i hi=>by rw[KO gs,KO h.sh];exact ga i x (.inl hi))
  (fun i hi=>by rw[KO h.sh];exact h.zero i x (by omega)) (fun i _=>by rw[KO gs];exact AE gs i x) (by rw[List.length_map,gs.1];exact hy)
 rw[KO gs,List.length_map,gs.1] at t2;rw[grow.2] at t1;have e1:=gr y hy;have e2:Ay (g.map fun row=>row.getD x 0)=ys.getD x 0:=gc x hx;have e3:=h.needE;have e4:left.getD x 0=ys.getD x 0-Ay (m.map fun row=>row.getD x 0):=h.leftE x hx;constructor
 ·intro hz;have a1:=t1.1 hz;have a2:=t2.1 hz;omega
 ·intro hz;have a1:=t1.2 hz;have a2:=t2.2 hz;omega
theorem UL{xs ys:List Int}{r c y x:Nat}{Bn:Int}{left:List Int}{m:List (List Int)}{k:Nat→Nat→Int→List Int→List (List Int)→List (List (List Int))}(h:JK xs ys r c y x Bn left m)(hy:y<r)(hx:x<c)
  (hk:∀Bn left m,JK xs ys r c y (x+1) Bn left m→∀g,g∈k y (x+1) Bn left m↔A4r xs ys r c y (x+1) m g)(g:List (List Int)):
  g∈NP r c k y x Bn left m↔A4r xs ys r c y x m g:=by
 have hz:Al m y x=0:=h.zero y x (.inr ⟨rfl,Nat.le_refl _⟩);unfold NP;rw[List.mem_append];constructor
 ·rintro(hm|hm)
  ·split at hm
   ·rename_i hc
    have:=(hk _ _ _ (h.white hc.1 hc.2) g).1 hm;exact⟨this.1,fun i j hij=>this.2 i j (by omega)⟩
   ·cases hm
  ·split at hm
   ·rename_i hc
    have:=(hk _ _ _ (h.black hy hx hc.1 hc.2) g).1 hm;refine⟨this.1,fun i j hij=>?_⟩;have e:=this.2 i j (by omega);rw[GR h.sh hy hx,if_neg (by omega)] at e;exact e
   ·cases hm
 ·intro hg;have hgu:=CY.guard h hy hx hg;have hb:=AE hg.1.1 y x;have uq:Al g y x=0∨Al g y x=1:=by omega
  rcases uq with h0|h1
  ·left;have hc:=hgu.1 h0;rw[if_pos hc];refine(hk _ _ _ (h.white hc.1 hc.2) g).2 ⟨hg.1,fun i j hij=>?_⟩;by_cases he:i=y∧j=x
   ·rw[he.1,he.2,h0,hz]
   ·exact hg.2 i j (by omega)
  ·right;have hc:=hgu.2 h1;rw[if_pos hc];refine(hk _ _ _ (h.black hy hx hc.1 hc.2) g).2 ⟨hg.1,fun i j hij=>?_⟩;rw[GR h.sh hy hx];by_cases he:i=y∧j=x
   ·rw[if_pos he,he.1,he.2,h1]
   ·rw[if_neg he];exact hg.2 i j (by omega)
theorem VK(xs ys:List Int)(r c:Nat)(f:Nat):∀(y x:Nat)(Bn:Int)(left:List Int)(m:List (List Int)),JK xs ys r c y x Bn left m→y<r→x≤c→1≤c→r*(c+1)≤f+(y*(c+1)+x)→
  ∀g,g∈Qt xs r c f y x Bn left m↔A4r xs ys r c y x m g:=by
 induction f with
 |zero=>
  intro y x Bn left m _ hy hx _ hf;have h1:(y+1)*(c+1)≤r*(c+1):=Nat.mul_le_mul_right _ hy;rw[Nat.succ_mul] at h1;omega
 |succ f ih=>
  intro y x Bn left m h hy hx hc1 hf g;rw[Qt];by_cases hxc:x=c
  ·subst hxc;rw[if_pos rfl];have h0:=h.need0;rw[if_neg (by omega)];by_cases gO:y+1=r
   ·rw[if_pos gO,List.mem_singleton];constructor
    ·rintro rfl;refine⟨⟨h.sh,fun i hi=>?_,fun j hj=>?_⟩,fun _ _ _=>rfl⟩
     ·by_cases hiy:i<y
      ·exact h.rows i hiy
      ·obtain rfl:i=y:=by omega
       have:=h.needE;omega
     ·obtain⟨h1,h2⟩:=h.left0 j hj;rw[if_pos hj] at h2;have:=h.leftE j hj;omega
    ·rintro⟨⟨gs,-⟩,ga⟩;exact gs.ext h.sh fun i j hi hj=>ga i j (by omega)
   ·rw[if_neg gO];have d5:y+1<r:=by omega
    have x8:r*(x+1)≤f+((y+1)*(x+1)+(0+1)):=by rw[Nat.succ_mul];omega
    rw[UL (h.next d5) d5 (by omega) (fun eT left' m' hi=>ih (y+1) (0+1) eT left' m' hi d5 (by omega) hc1 x8) g];refine⟨fun hg=>⟨hg.1,fun i j hij=>?_⟩,fun hg=>⟨hg.1,fun i j hij=>?_⟩⟩
    ·by_cases hjx:i<y+1
     ·exact hg.2 i j (.inl hjx)
     ·omega
    ·by_cases hjx:i<y
     ·exact hg.2 i j (.inl hjx)
     ·obtain rfl:i=y:=by omega
      by_cases hjc:j<x
      ·exact hg.2 i j (.inr ⟨rfl,hjc⟩)
      ·unfold Al;rw[FX (l:=g.getD i []) (by rw[(Cv hg.1.1 hy).2];omega),FX (l:=m.getD i []) (by rw[(Cv h.sh hy).2];omega)]
  ·rw[if_neg hxc];exact UL h hy (by omega) (fun eT left' m' hi=>ih y (x+1) eT left' m' hi hy (by omega) hc1 (by omega)) g
theorem O9{xs ys:List Int}{r c y x:Nat}{Bn:Int}{left:List Int}{m:List (List Int)}{k:Nat→Nat→Int→List Int→List (List Int)→List (List (List Int))}(h:JK xs ys r c y x Bn left m)(hy:y<r)(hx:x<c)
  (hk:∀Bn left m,JK xs ys r c y (x+1) Bn left m→∀g,g∈k y (x+1) Bn left m↔A4r xs ys r c y (x+1) m g)
  (hs:∀Bn left m,JK xs ys r c y (x+1) Bn left m→(k y (x+1) Bn left m).Pairwise (Zk r c)):(NP r c k y x Bn left m).Pairwise (Zk r c):=by
 unfold NP;rw[List.pairwise_append];refine⟨?_,?_,?_⟩
 ·split
  ·rename_i hc;exact hs _ _ _ (h.white hc.1 hc.2)
  ·exact List.Pairwise.nil
 ·split
  ·rename_i hc;exact hs _ _ _ (h.black hy hx hc.1 hc.2)
  ·exact List.Pairwise.nil
 ·intro a ha b hb
  split at ha
  ·split at hb
   ·rename_i hc1 cH
    have h1:=(hk _ _ _ (h.white hc1.1 hc1.2) a).1 ha;have h2:=(hk _ _ _ (h.black hy hx cH.1 cH.2) b).1 hb;refine⟨y,x,hy,hx,fun i j hij=>?_,?_⟩
    ·rw[h1.2 i j (by omega),h2.2 i j (by omega),GR h.sh hy hx,if_neg (by omega)]
    ·rw[h1.2 y x (by omega),h2.2 y x (by omega),GR h.sh hy hx,if_pos ⟨rfl,rfl⟩,h.zero y x (by omega)];decide
   ·cases hb
  ·cases ha
theorem A0T(xs ys:List Int)(r c:Nat)(f:Nat):∀(y x:Nat)(Bn:Int)(left:List Int)(m:List (List Int)),JK xs ys r c y x Bn left m→y<r→x≤c→1≤c→r*(c+1)≤f+(y*(c+1)+x)→
  (Qt xs r c f y x Bn left m).Pairwise (Zk r c):=by
 induction f with
 |zero=>intro y x Bn left m _ _ _ _ _;exact List.Pairwise.nil
 |succ f ih=>
  intro y x Bn left m h hy hx hc1 hf;rw[Qt];by_cases hxc:x=c
  ·subst hxc;rw[if_pos rfl];have h0:=h.need0;rw[if_neg (by omega)];by_cases gO:y+1=r
   ·rw[if_pos gO];exact List.pairwise_singleton _ _
   ·rw[if_neg gO];have d5:y+1<r:=by omega
    have x8:r*(x+1)≤f+((y+1)*(x+1)+(0+1)):=by rw[Nat.succ_mul];omega
    exact O9 (h.next d5) d5 (by omega) (fun eT left' m' hi=>VK xs ys r x f (y+1) (0+1) eT left' m' hi d5 (by omega) hc1 x8) (fun eT left' m' hi=>ih (y+1) (0+1) eT left' m' hi d5 (by omega) hc1 x8)
  ·rw[if_neg hxc];exact O9 h hy (by omega) (fun eT left' m' hi=>VK xs ys r c f y (x+1) eT left' m' hi hy (by omega) hc1 (by omega)) (fun eT left' m' hi=>ih y (x+1) eT left' m' hi hy (by omega) hc1 (by omega))
theorem A15(xs:List Int)(r c:Nat)(f:Nat):∀(y x:Nat)(Bn:Int)(left:List Int)(m:List (List Int)),(Qt xs r c f y x Bn left m).length≤2^f:=by
 induction f with
 |zero=>intro y x Bn left m;simp[Qt]
 |succ f ih=>
  have key:∀(y x:Nat)(Bn:Int)(left:List Int)(m:List (List Int)),(NP r c (Qt xs r c f) y x Bn left m).length≤2^(f+1):=by
   intro y x Bn left m;unfold NP;rw[List.length_append,Nat.pow_succ];have h1:(if Bn≤(c:Int)-x-1∧left.getD x 0≤(r:Int)-y-1 then Qt xs r c f y (x+1) Bn left m else[]).length≤2^f:=by
    split
    ·exact ih _ _ _ _ _
    ·simp
   have h2:(if 0<Bn∧0<left.getD x 0 then Qt xs r c f y (x+1) (Bn-1) (left.set x (left.getD x 0-1)) (setC m y x 1) else[]).length≤2^f:=by
    split
    ·exact ih _ _ _ _ _
    ·simp
   omega
  intro y x Bn left m;rw[Qt];have hp:1≤2^(f+1):=Nat.one_le_two_pow
  split
  ·split
   ·simp
   ·split
    ·simpa using hp
    ·exact key _ _ _ _ _
  ·exact key _ _ _ _ _
def AF(xs ys:List Int):Bool:=BR 1 5 xs.length&&BR 1 5 ys.length&&xs.all (BR 0 ys.length)&&ys.all (BR 0 xs.length)&&decide (Ay xs=Ay ys)
def Bi(xs ys:List Int):List (List (List Int)):=Qt xs xs.length ys.length (xs.length*(ys.length+1)) 0 0 (xs.getD 0 0) ys (Bv xs.length ys.length)
theorem BC{xs ys:List Int}(h:AF xs ys=true):1≤xs.length∧xs.length≤5∧1≤ys.length∧ys.length≤5∧(∀i,0≤xs.getD i 0∧xs.getD i 0≤ys.length)∧(∀j,0≤ys.getD j 0∧ys.getD j 0≤xs.length)∧Ay xs=Ay ys:=by
 unfold AF at h;simp only[Bool.and_eq_true,decide_eq_true_eq,AT] at h;obtain⟨⟨⟨⟨⟨a1,a2⟩,b1,b2⟩,h3⟩,h4⟩,h5⟩:=h;have key:∀(l:List Int)(n:Nat),l.all (BR 0 n)=true→∀i,0≤l.getD i 0∧l.getD i 0≤n:=by
  intro l n hl i;rw[List.getD_eq_getElem?_getD];cases hi:l[i]? with
  |none=>simp
  |some a=>
   have:=List.all_eq_true.1 hl a (List.mem_of_getElem? hi);rw[AT] at this;exact this
 exact⟨by omega,by omega,by omega,by omega,key _ _ h3,key _ _ h4,h5⟩
theorem Mo(r c i j:Nat):Al (Bv r c) i j=0:=by
 unfold Al Bv;by_cases hi:i<r
 ·rw[AL (l:=List.replicate r _) (x:=List.replicate c 0) (by rw[List.getElem?_replicate,if_pos hi])];by_cases hj:j<c
  ·exact AL (by rw[List.getElem?_replicate,if_pos hj])
  ·exact FX (by rw[List.length_replicate];omega)
 ·rw[FX (l:=List.replicate r _) (by rw[List.length_replicate];omega)];rfl
theorem A3c{xs ys:List Int}(h:AF xs ys=true):JK xs ys xs.length ys.length 0 0 (xs.getD 0 0) ys (Bv xs.length ys.length):=by
 obtain⟨h1,h2,h3,h4,h5,h6,h7⟩:=BC h;have bA:Ac xs.length ys.length (Bv xs.length ys.length):=Jb _ _;refine⟨bA,fun i j _=>Mo _ _ _ _,fun i hi=>by omega,?_,rfl,fun j hj=>?_,⟨(h5 0).1,by have:=(h5 0).2;push_cast;omega⟩,fun j hj=>⟨(h6 j).1,by rw[if_neg (by omega)];have:=(h6 j).2;push_cast;omega⟩,fun i _=>h5 i⟩
 ·rw[Mk fun j=>Mo _ _ 0 j];omega
 ·have:QD (Bv xs.length ys.length) j=0:=Mk fun i=>by rw[KO bA];exact Mo _ _ _ _
  omega
theorem Dp{xs ys:List Int}(h:AF xs ys=true)(g:List (List Int)):g∈Bi xs ys↔CY xs ys xs.length ys.length g:=by
 obtain⟨h1,h2,h3,h4,-⟩:=BC h;unfold Bi;rw[VK xs ys _ _ _ 0 0 _ _ _ (A3c h) (by omega) (by omega) h3 (by omega)];exact⟨fun hg=>hg.1,fun hg=>⟨hg,fun i j hij=>by omega⟩⟩
theorem Ls{xs ys:List Int}(h:AF xs ys=true):(Bi xs ys).Pairwise (Zk xs.length ys.length):=by
 obtain⟨h1,h2,h3,h4,-⟩:=BC h;unfold Bi;exact A0T xs ys _ _ _ 0 0 _ _ _ (A3c h) (by omega) (by omega) h3 (by omega)
theorem J3(xs ys:List Int):(Bi xs ys).length≤2^(xs.length*(ys.length+1)):=A15 _ _ _ _ _ _ _ _ _
def rs:Nat→(Nat→Int)→Int
 |0,_=>0
 |n+1,f=>rs n f+f n
theorem AN{n:Nat}{f g:Nat→Int}(h:∀i,i<n→f i=g i):rs n f=rs n g:=by
 induction n with
 |zero=>rfl
 |succ n ih=>rw[rs,rs,ih (fun i hi=>h i (by omega)),h n (by omega)]
theorem Fa{n:Nat}{f g:Nat→Int}(h:∀i,i<n→f i≤g i):rs n f≤rs n g:=by
 induction n with
 |zero=>exact Int.le_refl _
 |succ n ih=>rw[rs,rs];have:=ih (fun i hi=>h i (by omega));have:=h n (by omega);omega
theorem Dx(n:Nat)(f g:Nat→Int):rs n (fun i=>f i+g i)=rs n f+rs n g:=by
 induction n with
 |zero=>rfl
 |succ n ih=>rw[rs,rs,rs,ih];omega
theorem ER(n:Nat)(f g:Nat→Int):rs n (fun i=>f i-g i)=rs n f-rs n g:=by
 induction n with
 |zero=>rfl
 |succ n ih=>rw[rs,rs,rs,ih];omega
theorem CN(n:Nat):rs n (fun _=>0)=0:=by
 induction n with
 |zero=>rfl
 |succ n ih=>rw[rs,ih];rfl
theorem K3{n:Nat}{f:Nat→Int}(h:∀i,i<n→f i=0):rs n f=0:=(AN h).trans (CN n)
theorem Sf(n:Nat)(k:Int):rs n (fun _=>k)=n*k:=by
 induction n with
 |zero=>simp[rs]
 |succ n ih=>rw[rs,ih,Int.natCast_succ,Int.add_mul];omega
theorem A5x(n:Nat)(k:Int)(f:Nat→Int):rs n (fun i=>k*f i)=k*rs n f:=by
 induction n with
 |zero=>simp[rs]
 |succ n ih=>rw[rs,rs,ih,Int.mul_add]
theorem E8{n i:Nat}(hi:i<n)(f:Nat→Int):rs n (fun k=>if k=i then f k else 0)=f i:=by
 induction n with
 |zero=>omega
 |succ n ih=>
  rw[rs];by_cases h:i=n
  ·subst h;rw[if_pos rfl,K3 (fun k hk=>if_neg (by omega))];omega
  ·rw[ih (by omega),if_neg (fun e=>h e.symm)];omega
theorem QM(n m:Nat)(f:Nat→Nat→Int):rs n (fun i=>rs m (fun j=>f i j))=rs m (fun j=>rs n (fun i=>f i j)):=by
 induction n with
 |zero=>rw[rs];exact(CN m).symm
 |succ n ih=>
  rw[rs,ih,←Dx];exact AN fun j _=>by rw[rs]
theorem Ey{n:Nat}{f:Nat→Int}(h:∀i,i<n→0≤f i):0≤rs n f:=by
 have:=Fa (n:=n) (f:=fun _=>0) (g:=f) h;rwa[CN] at this
theorem Kw{n i:Nat}(hi:i<n){f:Nat→Int}(h:∀i,i<n→0≤f i):f i≤rs n f:=by
 have:=Fa (n:=n) (f:=fun k=>if k=i then f k else 0) (g:=f) (fun k hk=>by split;exact Int.le_refl _;exact h k hk);rwa[E8 hi] at this
theorem A5O{n:Nat}{f:Nat→Int}(h:0<rs n f):∃i,i<n∧0<f i:=by
 apply Classical.byContradiction;intro hn;have:=Fa (n:=n) (f:=f) (g:=fun _=>0) (fun i hi=>by
  apply Classical.byContradiction;intro aH;exact hn ⟨i,hi,by omega⟩)
 rw[CN] at this;omega
def gc(a b:Bool)(l u:Int):Int:=(if b&&!a then l else 0)-(if a&&!b then u else 0)
def Bn(r c:Nat)(R C:Nat→Int)(l u:Nat→Nat→Int)(A B:Nat→Bool):Int:=
 rs r (fun i=>if A i then R i else 0)-rs c (fun j=>if B j then C j else 0)+rs r (fun i=>rs c (fun j=>gc (A i) (B j) (l i j) (u i j)))
def Er(f:Nat→Nat→Int)(i0 j0:Nat)(v:Int):Nat→Nat→Int:=fun i j=>if i=i0∧j=j0 then v else f i j
theorem A4u(a0 a1 b0 b1:Bool){l u:Int}(h:l≤u):gc a0 b0 l u+gc a1 b1 l u≤gc (a0||a1) (b0||b1) l u+gc (a0&&a1) (b0&&b1) l u:=by
 cases a0<;>cases a1<;>cases b0<;>cases b1<;>simp[gc]<;>omega
theorem A1C(a0 a1 b0 b1:Bool):gc a0 b0 0 0+gc a1 b1 1 1-1≤gc (a0||a1) (b0||b1) 0 1+gc (a0&&a1) (b0&&b1) 0 1:=by
 cases a0<;>cases a1<;>cases b0<;>cases b1<;>decide
theorem VJ{r c i0 j0:Nat}(hi:i0<r)(hj:j0<c):rs r (fun i=>rs c (fun j=>if i=i0∧j=j0 then(1:Int) else 0))=1:=by
 have h1:∀i,i<r→rs c (fun j=>if i=i0∧j=j0 then(1:Int) else 0)=if i=i0 then 1 else 0:=by
  intro i _;by_cases h:i=i0
  ·rw[if_pos h];rw[AN (g:=fun j=>if j=j0 then(1:Int) else 0) (fun j _=>by simp[h])];exact E8 hj (fun _=>1)
  ·rw[if_neg h];exact K3 fun j _=>if_neg (fun e=>h e.1)
 rw[AN h1];exact E8 hi (fun _=>1)
theorem A0P{r c i0 j0:Nat}(hi:i0<r)(hj:j0<c){R C:Nat→Int}{l u:Nat→Nat→Int}(hlu:∀i j,i<r→j<c→l i j≤u i j)(hl:l i0 j0=0)(hu:u i0 j0=1)(A0 B0 A1 B1:Nat→Bool):
  Bn r c R C l (Er u i0 j0 0) A0 B0+Bn r c R C (Er l i0 j0 1) u A1 B1-1≤
   Bn r c R C l u (fun i=>A0 i||A1 i) (fun j=>B0 j||B1 j)+Bn r c R C l u (fun i=>A0 i&&A1 i) (fun j=>B0 j&&B1 j):=by
 unfold Bn;have e1:rs r (fun i=>if A0 i then R i else 0)+rs r (fun i=>if A1 i then R i else 0)=rs r (fun i=>if(A0 i||A1 i) then R i else 0)+rs r (fun i=>if(A0 i&&A1 i) then R i else 0):=by
  rw[←Dx,←Dx];refine AN fun i _=>?_;cases A0 i<;>cases A1 i<;>simp
 have e2:rs c (fun i=>if B0 i then C i else 0)+rs c (fun i=>if B1 i then C i else 0)=rs c (fun i=>if(B0 i||B1 i) then C i else 0)+rs c (fun i=>if(B0 i&&B1 i) then C i else 0):=by
  rw[←Dx,←Dx];refine AN fun i _=>?_;cases B0 i<;>cases B1 i<;>simp
 have e3:=Fa (n:=r) (f:=fun i=>rs c (fun j=>gc (A0 i) (B0 j) (l i j) (Er u i0 j0 0 i j))+rs c (fun j=>gc (A1 i) (B1 j) (Er l i0 j0 1 i j) (u i j))-rs c (fun j=>if i=i0∧j=j0 then(1:Int) else 0))
  (g:=fun i=>rs c (fun j=>gc (A0 i||A1 i) (B0 j||B1 j) (l i j) (u i j))+rs c (fun j=>gc (A0 i&&A1 i) (B0 j&&B1 j) (l i j) (u i j))) (fun i hir=>by
    show rs c _+rs c _-rs c _≤rs c _+rs c _;rw[←Dx,←Dx,←ER];refine Fa fun j hjc=>?_;by_cases h:i=i0∧j=j0
    ·obtain⟨rfl,rfl⟩:=h;have:=A1C (A0 i) (A1 i) (B0 j) (B1 j);simp only[Er,and_self,if_true,hl,hu];omega
    ·have:=A4u (A0 i) (A1 i) (B0 j) (B1 j) (hlu i j hir hjc);simp only[Er,if_neg h];omega)
 rw[ER,Dx,Dx,VJ hi hj] at e3;show _-_+_+(_-_+_)-1≤(_-_+_)+(_-_+_);dsimp only at e1 e2 e3⊢;omega
theorem Jk{n i:Nat}(hi:i<n){f g:Nat→Int}(h:∀k,k<n→k≠i→f k=g k):rs n f=rs n g-g i+f i:=by
 have h1:=ER n f g;have h2:rs n (fun k=>f k-g k)=rs n (fun k=>if k=i then f k-g k else 0):=AN fun k hk=>by
  by_cases e:k=i
  ·rw[if_pos e]
  ·rw[if_neg e,h k hk e];omega
 rw[E8 hi (fun k=>f k-g k)] at h2;omega
theorem Ub{r c i0 j0:Nat}(hi:i0<r)(hj:j0<c)(f:Nat→Nat→Int)(v:Int):rs r (fun i=>rs c (fun j=>Er f i0 j0 v i j))=rs r (fun i=>rs c (fun j=>f i j))-f i0 j0+v:=by
 rw[Jk hi (g:=fun i=>rs c (fun j=>f i j)) (fun k _ aO=>AN fun j _=>by simp only[Er];rw[if_neg (fun e=>aO e.1)])];rw[Jk hj (f:=fun j=>Er f i0 j0 v i0 j) (g:=fun j=>f i0 j) (fun k _ aO=>by simp only[Er];rw[if_neg (fun e=>aO e.2)])];simp only[Er,and_self,if_true];omega
theorem A6L(r c:Nat)(R C:Nat→Int)(hRC:rs r R=rs c C):∀(n:Nat)(l u:Nat→Nat→Int),(∀i j,i<r→j<c→0≤l i j∧l i j≤u i j∧u i j≤1)→rs r (fun i=>rs c (fun j=>u i j))-rs r (fun i=>rs c (fun j=>l i j))≤n→
  (∃x:Nat→Nat→Int,(∀i j,i<r→j<c→l i j≤x i j∧x i j≤u i j)∧(∀i,i<r→rs c (fun j=>x i j)=R i)∧(∀j,j<c→rs r (fun i=>x i j)=C j))∨∃A B,0<Bn r c R C l u A B:=by
 intro n;induction n with
 |zero=>
  intro l u hb hn;have dJ:∀i j,i<r→j<c→l i j=u i j:=by
   intro i j hi hj;rw[←ER] at hn;have h0:∀i,i<r→0≤rs c (fun j=>u i j)-rs c (fun j=>l i j):=fun i hi=>by
    have:=Fa (n:=c) (f:=fun j=>l i j) (g:=fun j=>u i j) (fun j hj=>(hb i j hi hj).2.1);omega
   have h1:=Kw hi h0;rw[←ER] at h1;have h2:=Kw hj (f:=fun j=>u i j-l i j) (fun j hj=>by have:=hb i j hi hj;omega);have:=hb i j hi hj;omega
  by_cases hR:∀i,i<r→rs c (fun j=>u i j)=R i
  ·by_cases hC:∀j,j<c→rs r (fun i=>u i j)=C j
   ·exact .inl ⟨u,fun i j hi hj=>⟨(hb i j hi hj).2.1,Int.le_refl _⟩,hR,hC⟩
   ·right;obtain⟨j0,hn⟩:=Classical.not_forall.1 hC;rw[Classical.not_imp] at hn;obtain⟨hj,aO⟩:=hn;by_cases aH:rs r (fun i=>u i j0)<C j0
    ·refine⟨fun _=>true,fun j=>!(j==j0),?_⟩;unfold Bn;have e1:rs c (fun j=>if !(j==j0) then C j else 0)=rs c C-C j0+0:=by
      have:=Jk hj (f:=fun j=>if !(j==j0) then C j else 0) (g:=C) (fun k _ aO=>by simp[aO]);simpa using this
     have e2:rs r (fun i=>rs c (fun j=>gc true (!(j==j0)) (l i j) (u i j)))=rs r (fun i=>0-u i j0):=by
      refine AN fun i _=>?_;rw[←E8 hj (fun j=>0-u i j)];refine AN fun j _=>?_;by_cases e:j=j0<;>simp[gc,e]
     rw[e1,e2,ER,CN];simp only[if_true];have hRC':rs r (fun i=>R i)=rs c C:=hRC;omega
    ·refine⟨fun _=>false,fun j=>j==j0,?_⟩;unfold Bn;have e1:rs c (fun j=>if(j==j0) then C j else 0)=C j0:=by
      rw[←E8 hj C];exact AN fun j _=>by simp
     have e2:rs r (fun i=>rs c (fun j=>gc false (j==j0) (l i j) (u i j)))=rs r (fun i=>u i j0):=by
      refine AN fun i hi=>?_;rw[←dJ i j0 hi hj,←E8 hj (fun j=>l i j)];refine AN fun j _=>?_;by_cases e:j=j0<;>simp[gc,e]
     rw[e1,e2];simp only[Bool.false_eq_true,if_false];rw[CN];omega
  ·right;obtain⟨i0,hn⟩:=Classical.not_forall.1 hR;rw[Classical.not_imp] at hn;obtain⟨hi,aO⟩:=hn;by_cases aH:rs c (fun j=>u i0 j)<R i0
   ·refine⟨fun i=>i==i0,fun _=>false,?_⟩;unfold Bn;have e1:rs r (fun i=>if(i==i0) then R i else 0)=R i0:=by
     rw[←E8 hi R];exact AN fun j _=>by simp
    have e2:rs r (fun i=>rs c (fun j=>gc (i==i0) false (l i j) (u i j)))=0-rs c (fun j=>u i0 j):=by
     rw[←E8 hi (fun i=>0-rs c (fun j=>u i j))];refine AN fun i _=>?_;by_cases e:i=i0
     ·rw[if_pos e,←CN c,←ER];exact AN fun j _=>by simp[gc,e]
     ·rw[if_neg e];exact K3 fun j _=>by simp[gc,e]
    rw[e1,e2];simp only[Bool.false_eq_true,if_false];rw[CN];omega
   ·refine⟨fun i=>!(i==i0),fun _=>true,?_⟩;unfold Bn;have e1:rs r (fun i=>if !(i==i0) then R i else 0)=rs r R-R i0+0:=by
     have:=Jk hi (f:=fun j=>if !(j==i0) then R j else 0) (g:=R) (fun k _ aO=>by simp[aO]);simpa using this
    have e2:rs r (fun i=>rs c (fun j=>gc (!(i==i0)) true (l i j) (u i j)))=rs c (fun j=>u i0 j):=by
     rw[←E8 hi (fun i=>rs c (fun j=>u i j))];refine AN fun i hi=>?_;by_cases e:i=i0
     ·rw[if_pos e];exact AN fun j hj=>by rw[←dJ i j hi hj];simp[gc,e]
     ·rw[if_neg e];exact K3 fun j _=>by simp[gc,e]
    rw[e1,e2];simp only[if_true];have hRC':rs r R=rs c (fun i=>C i):=hRC;omega
 |succ n ih=>
  intro l u hb hn;by_cases cP:∃i j,i<r∧j<c∧l i j<u i j
  ·obtain⟨i0,j0,hi,hj,aH⟩:=cP;have eU:=hb i0 j0 hi hj;have hl:l i0 j0=0:=by omega
   have hu:u i0 j0=1:=by omega
   have f0:=Ub hi hj u 0;have f1:=Ub hi hj l 1;rcases ih l (Er u i0 j0 0) (fun i j hi hj=>by
     simp only[Er]
     split
     ·rename_i h;obtain⟨rfl,rfl⟩:=h;omega
     ·exact hb i j hi hj) (by rw[f0];omega) with⟨x,hx,h2,h3⟩|⟨A0,B0,hA⟩
   ·refine .inl ⟨x,fun i j hi hj=>⟨(hx i j hi hj).1,?_⟩,h2,h3⟩;have:=(hx i j hi hj).2;simp only[Er] at this
    split at this
    ·rename_i h;obtain⟨rfl,rfl⟩:=h;omega
    ·exact this
   rcases ih (Er l i0 j0 1) u (fun i j hi hj=>by
     simp only[Er]
     split
     ·rename_i h;obtain⟨rfl,rfl⟩:=h;omega
     ·exact hb i j hi hj) (by rw[f1];omega) with⟨x,hx,h2,h3⟩|⟨A1,B1,hA1⟩
   ·refine .inl ⟨x,fun i j hi hj=>⟨?_,(hx i j hi hj).2⟩,h2,h3⟩;have:=(hx i j hi hj).1;simp only[Er] at this
    split at this
    ·rename_i h;obtain⟨rfl,rfl⟩:=h;omega
    ·exact this
   right;have hs:=A0P hi hj (R:=R) (C:=C) (fun i j hi hj=>(hb i j hi hj).2.1) hl hu A0 B0 A1 B1;by_cases h:0<Bn r c R C l u (fun i=>A0 i||A1 i) (fun j=>B0 j||B1 j)
   ·exact⟨_,_,h⟩
   ·exact⟨_,_,show 0<Bn r c R C l u (fun i=>A0 i&&A1 i) (fun j=>B0 j&&B1 j) by omega⟩
  ·have dJ:rs r (fun i=>rs c (fun j=>u i j))≤rs r (fun i=>rs c (fun j=>l i j)):=Fa fun i hi=>Fa fun j hj=>by
    apply Classical.byContradiction;intro h;exact cP ⟨i,j,hi,hj,by omega⟩
   exact ih l u hb (by omega)
theorem A4I{r c:Nat}{R C:Nat→Int}{l u x:Nat→Nat→Int}(hx:∀i j,i<r→j<c→l i j≤x i j∧x i j≤u i j)(hR:∀i,i<r→rs c (fun j=>x i j)=R i)(hC:∀j,j<c→rs r (fun i=>x i j)=C j)(A B:Nat→Bool):Bn r c R C l u A B≤0:=by
 unfold Bn;have e1:rs r (fun i=>if A i then R i else 0)=rs r (fun i=>rs c (fun j=>if A i then x i j else 0)):=AN fun i hi=>by
  cases A i
  ·simp[CN]
  ·simp[hR i hi]
 have e2:rs c (fun j=>if B j then C j else 0)=rs r (fun i=>rs c (fun j=>if B j then x i j else 0)):=by
  rw[QM];exact AN fun j hj=>by
   cases B j
   ·simp[CN]
   ·simp[hC j hj]
 rw[e1,e2,←ER,←Dx];refine Int.le_trans (Fa (g:=fun _=>0) fun i hi=>?_) (by rw[CN];exact Int.le_refl _);rw[←ER,←Dx];refine Int.le_trans (Fa (g:=fun _=>0) fun j hj=>?_) (by rw[CN];exact Int.le_refl _);have:=hx i j hi hj;cases A i<;>cases B j<;>simp[gc]<;>omega
theorem OW(n:Nat)(f:Nat→Int):rs (n+1) f=f 0+rs n (fun i=>f (i+1)):=by
 induction n with
 |zero=>simp[rs]
 |succ n ih=>rw[rs,ih,rs];omega
theorem F8(l:List Int):Ay l=rs l.length (fun i=>l.getD i 0):=by
 induction l with
 |nil=>rfl
 |cons a l ih=>
  rw[Bs,List.length_cons,OW,ih];simp
theorem S9(n:Nat)(f:Nat→Int):Ay ((List.range n).map f)=rs n f:=by
 rw[F8,List.length_map,List.length_range];exact AN fun i hi=>AL (by rw[List.getElem?_map,List.getElem?_range hi];rfl)
theorem WB{α:Type}(l:List α)(f g:α→Int):Ay (l.map fun x=>f x+g x)=Ay (l.map f)+Ay (l.map g):=by
 induction l with
 |nil=>rfl
 |cons a l ih=>simp only[List.map_cons,Bs,ih];omega
theorem Qg{α:Type}{l:List α}{f g:α→Int}(h:∀x∈l,f x≤g x):Ay (l.map f)≤Ay (l.map g):=by
 induction l with
 |nil=>exact Int.le_refl _
 |cons a l ih=>
  simp only[List.map_cons,Bs];have:=ih (fun x hx=>h x (List.mem_cons_of_mem _ hx));have:=h a (by simp);omega
theorem Un{a b:List Int}(h:a.Perm b):Ay a=Ay b:=by
 induction h with
 |nil=>rfl
 |cons x _ ih=>rw[Bs,Bs,ih]
 |swap x y l=>rw[Bs,Bs,Bs,Bs];omega
 |trans _ _ h1 h2=>rw[h1,h2]
theorem Rn{α:Type}(l:List α)(k:Int):Ay (l.map fun _=>k)=l.length*k:=by
 induction l with
 |nil=>simp[G8]
 |cons a l ih=>rw[List.map_cons,Bs,ih,List.length_cons,Int.natCast_succ,Int.add_mul];omega
def ED(r c:Nat)(x:Nat→Nat→Int):List (List Int):=(List.range r).map fun i=>(List.range c).map fun j=>x i j
theorem PW{r c:Nat}{x:Nat→Nat→Int}(h:∀i j,i<r→j<c→0≤x i j∧x i j≤1):Ac r c (ED r c x):=by
 refine⟨by simp[ED],fun row hr=>?_⟩;obtain⟨i,hi,rfl⟩:=List.mem_map.1 hr;refine⟨by simp,fun z hz=>?_⟩;obtain⟨j,hj,rfl⟩:=List.mem_map.1 hz;exact h i j (List.mem_range.1 hi) (List.mem_range.1 hj)
theorem NU{r c i j:Nat}{x:Nat→Nat→Int}(hi:i<r)(hj:j<c):Al (ED r c x) i j=x i j:=by
 unfold Al ED;rw[AL (l:=(List.range r).map _) (x:=(List.range c).map fun j=>x i j) (by rw[List.getElem?_map,List.getElem?_range hi];rfl)];exact AL (by rw[List.getElem?_map,List.getElem?_range hj];rfl)
theorem ZF{m:List (List Int)}{r c i:Nat}(h:Ac r c m)(hi:i<r):Ay (m.getD i [])=rs c (fun j=>Al m i j):=by
 rw[F8,(Cv h hi).2];rfl
theorem Zw{m:List (List Int)}{r c:Nat}(h:Ac r c m)(j:Nat):QD m j=rs r (fun i=>Al m i j):=by
 unfold QD;rw[F8,List.length_map,h.1];exact AN fun i _=>KO h i
theorem E0{xs ys:List Int}{r c:Nat}{g:List (List Int)}:CY xs ys r c g↔Ac r c g∧(∀i,i<r→rs c (fun j=>Al g i j)=xs.getD i 0)∧∀j,j<c→rs r (fun i=>Al g i j)=ys.getD j 0:=by
 unfold CY;constructor
 ·rintro⟨h1,h2,h3⟩;exact⟨h1,fun i hi=>by rw[←ZF h1 hi];exact h2 i hi,fun j hj=>by rw[←Zw h1];exact h3 j hj⟩
 ·rintro⟨h1,h2,h3⟩;exact⟨h1,fun i hi=>by rw[ZF h1 hi];exact h2 i hi,fun j hj=>by rw[Zw h1];exact h3 j hj⟩
abbrev Td(l:List Int):Nat→Int:=fun i=>l.getD i 0
theorem VP{xs ys:List Int}(hs:Ay xs=Ay ys){l u:Nat→Nat→Int}(hb:∀i j,i<xs.length→j<ys.length→0≤l i j∧l i j≤u i j∧u i j≤1):
  (∃g,CY xs ys xs.length ys.length g∧∀i j,i<xs.length→j<ys.length→l i j≤Al g i j∧Al g i j≤u i j)∨∃A B,0<Bn xs.length ys.length (Td xs) (Td ys) l u A B:=by
 have h0:rs xs.length (Td xs)=rs ys.length (Td ys):=by rw[←F8,←F8];exact hs
 rcases A6L xs.length ys.length (Td xs) (Td ys) h0 _ l u hb (Int.self_le_toNat _) with⟨x,h1,h2,h3⟩|h
 ·left;have bA:Ac xs.length ys.length (ED xs.length ys.length x):=PW fun i j hi hj=>by have:=hb i j hi hj;have:=h1 i j hi hj;omega
  refine⟨ED xs.length ys.length x,E0.2 ⟨bA,fun i hi=>?_,fun j hj=>?_⟩,fun i j hi hj=>by rw[NU hi hj];exact h1 i j hi hj⟩
  ·rw[AN fun j hj=>NU hi hj];exact h2 i hi
  ·rw[AN fun i hi=>NU hi hj];exact h3 j hj
 ·exact .inr h
theorem Ku{xs ys:List Int}{r c:Nat}{g:List (List Int)}(hg:CY xs ys r c g){l u:Nat→Nat→Int}(hb:∀i j,i<r→j<c→l i j≤Al g i j∧Al g i j≤u i j)(A B:Nat→Bool):Bn r c (Td xs) (Td ys) l u A B≤0:=by
 obtain⟨h1,h2,h3⟩:=E0.1 hg;exact A4I hb h2 h3 A B
def OX(l:List Int):Prop:=l.Pairwise (fun a b=>b≤a)
def KH(x:Int):List Int→List Int
 |[]=>[x]
 |a::l=>if x≤a then a::KH x l else x::a::l
def sortD(l:List Int):List Int:=l.foldl (fun acc x=>KH x acc) []
theorem V3(x:Int)(l:List Int):(KH x l).Perm (x::l):=by
 induction l with
 |nil=>exact List.Perm.refl _
 |cons a l ih=>
  unfold KH
  split
  ·exact(List.Perm.cons a ih).trans (List.Perm.swap x a l)
  ·exact List.Perm.refl _
theorem A1M{x:Int}{l:List Int}(h:OX l):OX (KH x l):=by
 induction l with
 |nil=>exact List.pairwise_singleton _ _
 |cons a l ih=>
  unfold OX at h⊢;rw[List.pairwise_cons] at h;unfold KH
  split
  ·rename_i hxa
   rw[List.pairwise_cons];refine⟨fun b hb=>?_,ih h.2⟩;rcases List.mem_cons.1 ((V3 x l).mem_iff.1 hb) with rfl|hb
   ·exact hxa
   ·exact h.1 b hb
  ·rename_i hxa
   rw[List.pairwise_cons,List.pairwise_cons];refine⟨fun b hb=>?_,h⟩;rcases List.mem_cons.1 hb with rfl|hb
   ·omega
   ·have:=h.1 b hb;omega
theorem UI(l acc:List Int):(l.foldl (fun acc x=>KH x acc) acc).Perm (acc++l)∧(OX acc→OX (l.foldl (fun acc x=>KH x acc) acc)):=by
 induction l generalizing acc with
 |nil=>simp
 |cons a l ih=>
  obtain⟨h1,h2⟩:=ih (KH a acc);refine⟨h1.trans ?_,fun h=>h2 (A1M h)⟩;exact((V3 a acc).append_right l).trans List.perm_middle.symm
theorem Gt(l:List Int):(sortD l).Perm l:=(UI l []).1
theorem Ns(l:List Int):OX (sortD l):=(UI l []).2 List.Pairwise.nil
theorem CI(l:List Int):(sortD l).length=l.length:=(Gt l).length_eq
theorem A4J{a b:List Int}(h:a.Perm b)(h1:OX a)(h2:OX b):a=b:=by
 induction a generalizing b with
 |nil=>exact(List.nil_perm.1 h).symm
 |cons x a ih=>
  cases b with
  |nil=>simp at h
  |cons y b=>
   unfold OX at h1 h2;rw[List.pairwise_cons] at h1 h2;have hx:y≤x:=by
    rcases List.mem_cons.1 (h.symm.mem_iff.1 (List.mem_cons_self (a:=y) (l:=b))) with e|hm
    ·omega
    ·exact h1.1 y hm
   have hy:x≤y:=by
    rcases List.mem_cons.1 (h.mem_iff.1 (List.mem_cons_self (a:=x) (l:=a))) with e|hm
    ·omega
    ·exact h2.1 x hm
   have e:x=y:=by omega
   subst e;rw[ih h.cons_inv h1.2 h2.2]
theorem A47{a l:List Int}(h:a.Perm l)(hd:OX a):a=sortD l:=A4J (h.trans (Gt l).symm) hd (Ns l)
theorem YH{a b l:List Int}(h:List.Perm (a++b) l):∃s:List Int,s.Sublist l∧s.Perm a:=by
 induction l generalizing a b with
 |nil=>
  have:=List.perm_nil.1 h;exact⟨[],List.Sublist.refl _,by rw[(List.append_eq_nil_iff.1 this).1]⟩
 |cons y l ih=>
  by_cases hy:y∈a
  ·have h1:=List.perm_cons_erase hy;have h2:(y::(a.erase y++b)).Perm (y::l):=((h1.append_right b).symm).trans h;obtain⟨s,hs,hp⟩:=ih h2.cons_inv;exact⟨y::s,hs.cons_cons y,(List.Perm.cons y hp).trans h1.symm⟩
  ·have fx:y∈b:=by
    have:=h.symm.mem_iff.1 (List.mem_cons_self (a:=y) (l:=l));exact(List.mem_append.1 this).resolve_left hy
   have h1:=List.perm_cons_erase fx;have h2:(y::(a++b.erase y)).Perm (y::l):=(List.perm_middle.symm.trans ((h1.append_left a).symm)).trans h;obtain⟨s,hs,hp⟩:=ih h2.cons_inv;exact⟨s,hs.cons y,hp⟩
theorem Xk{s l:List Int}(h:s.Sublist l):∃T:Nat→Bool,rs l.length (fun j=>if T j then 1 else 0)=s.length∧rs l.length (fun j=>if T j then l.getD j 0 else 0)=Ay s:=by
 induction h with
 |slnil=>exact⟨fun _=>false,rfl,rfl⟩
 |@cons s l a h ih=>
  obtain⟨T,h1,h2⟩:=ih;refine⟨fun j=>match j with|0=>false|j+1=>T j,?_,?_⟩
  ·rw[List.length_cons,OW];simpa using h1
  ·rw[List.length_cons,OW];simp only[List.getD_cons_zero,List.getD_cons_succ,Bool.false_eq_true,if_false];omega
 |@cons_cons s l a h ih=>
  obtain⟨T,h1,h2⟩:=ih;refine⟨fun j=>match j with|0=>true|j+1=>T j,?_,?_⟩
  ·rw[List.length_cons,OW,List.length_cons];simp;omega
  ·rw[List.length_cons,OW,Bs];simp only[List.getD_cons_zero,List.getD_cons_succ,if_true];omega
theorem A4d(ys:List Int){k:Nat}(hk:k≤ys.length):∃T:Nat→Bool,rs ys.length (fun j=>if T j then 1 else 0)=k∧rs ys.length (fun j=>if T j then ys.getD j 0 else 0)=Ay ((sortD ys).take k):=by
 have h:((sortD ys).take k++(sortD ys).drop k).Perm ys:=by rw[List.take_append_drop];exact Gt ys
 obtain⟨s,hs,hp⟩:=YH h;obtain⟨T,h1,h2⟩:=Xk hs;refine⟨T,?_,?_⟩
 ·rw[h1,hp.length_eq,List.length_take,CI,Nat.min_eq_left hk]
 ·rw[h2,Un hp]
theorem A4U(ys:List Int){k:Nat}(hk:k≤ys.length)(T:Nat→Bool)(hT:rs ys.length (fun j=>if T j then 1 else 0)=k):rs ys.length (fun j=>if T j then ys.getD j 0 else 0)≤Ay ((sortD ys).take k):=by
 cases k with
 |zero=>
  have h0:∀j,j<ys.length→T j=false:=by
   intro j hj;have:=Kw hj (f:=fun j=>if T j then 1 else 0) (fun i _=>by split<;>decide);rw[hT] at this;cases h:T j
   ·rfl
   ·rw[h] at this;simp at this
  rw[K3 fun j hj=>by rw[h0 j hj];rfl];simp[G8]
 |succ k=>
  have aP:k<(sortD ys).length:=by rw[CI];omega
  obtain⟨t,ht⟩:∃t,t=(sortD ys)[k]:=⟨_,rfl⟩;have hd:=Ns ys;have e1:rs ys.length (fun j=>if T j then ys.getD j 0 else 0)≤rs ys.length (fun j=>max (ys.getD j 0-t) 0+t*(if T j then 1 else 0)):=Fa fun j _=>by
   cases T j<;>simp<;>omega
  rw[Dx,A5x,hT] at e1;have e2:rs ys.length (fun j=>max (ys.getD j 0-t) 0)=Ay (ys.map fun y=>max (y-t) 0):=by
   rw[F8,List.length_map];refine AN fun j hj=>?_;have h1:=List.getElem?_eq_getElem hj;rw[AL h1,AL (x:=max (ys[j]-t) 0)];rw[List.getElem?_map,h1];rfl
  have e3:Ay (ys.map fun y=>max (y-t) 0)=Ay ((sortD ys).map fun y=>max (y-t) 0):=(Un ((Gt ys).map _)).symm;have e4:(sortD ys).map (fun y=>max (y-t) 0)=((sortD ys).take (k+1)).map (fun y=>max (y-t) 0)++((sortD ys).drop (k+1)).map (fun y=>max (y-t) 0):=by rw[←List.map_append,List.take_append_drop]
  unfold OX at hd;rw[List.pairwise_iff_getElem] at hd;have hpre:∀y∈(sortD ys).take (k+1),t≤y:=by
   intro y hy;obtain⟨i,hi,rfl⟩:=List.getElem_of_mem hy;rw[List.length_take] at hi;rw[List.getElem_take,ht];by_cases x9:i=k
   ·subst x9;exact Int.le_refl _
   ·exact hd i k (by omega) aP (by omega)
  have ut:∀y∈(sortD ys).drop (k+1),y≤t:=by
   intro y hy;obtain⟨i,hi,rfl⟩:=List.getElem_of_mem hy;rw[List.length_drop] at hi;rw[List.getElem_drop,ht];exact hd k (k+1+i) aP (by omega) (by omega)
  have e5:Ay (((sortD ys).take (k+1)).map fun y=>max (y-t) 0)+((k+1:Nat):Int)*t≤Ay ((sortD ys).take (k+1)):=by
   have h1:=Qg (l:=(sortD ys).take (k+1)) (f:=fun y=>max (y-t) 0+t) (g:=fun y=>y) (fun y hy=>by have:=hpre y hy;simp;omega);rw[WB,Rn,List.length_take,Nat.min_eq_left (by omega)] at h1;simpa using h1
  have e6:Ay (((sortD ys).drop (k+1)).map fun y=>max (y-t) 0)≤0:=by
   have h1:=Qg (l:=(sortD ys).drop (k+1)) (f:=fun y=>max (y-t) 0) (g:=fun _=>0) (fun y hy=>by have:=ut y hy;simp;omega);rw[Rn] at h1;simpa using h1
  rw[e4,Ye] at e3;rw[Int.mul_comm] at e1;omega
def EC(xs:List Int)(n:Nat):List Int:=(List.range n).map fun k:Nat=>((xs.filter fun x=>decide ((k:Int)<x)).length:Int)
def LI(xs:List Int)(k:Nat):Int:=Ay (xs.map fun x=>min x k)
theorem A0K{x:Int}(hx:0≤x)(k:Nat):rs k (fun i=>if(i:Int)<x then 1 else 0)=min x k:=by
 induction k with
 |zero=>simp[rs];omega
 |succ k ih=>
  rw[rs,ih]
  split<;>omega
theorem A2R{xs:List Int}(h:∀x∈xs,0≤x){k n:Nat}(hk:k≤n):Ay ((EC xs n).take k)=LI xs k:=by
 have e:(EC xs n).take k=(List.range k).map fun k:Nat=>((xs.filter fun x=>decide ((k:Int)<x)).length:Int):=by
  unfold EC;rw[←List.map_take,List.take_range,Nat.min_eq_left hk]
 rw[e,S9];unfold LI;clear e;induction xs with
 |nil=>simp[CN,G8]
 |cons a xs ih=>
  rw[List.map_cons,Bs,←ih (fun x hx=>h x (List.mem_cons_of_mem _ hx)),←A0K (h a (by simp)) k,←Dx];refine AN fun i _=>?_;rw[List.filter_cons];by_cases hi:(i:Int)<a
  ·simp[hi];omega
  ·simp[hi]
theorem ST(xs:List Int)(k:Nat):LI xs k=rs xs.length (fun i=>min (xs.getD i 0) k):=by
 unfold LI;rw[F8,List.length_map];refine AN fun i hi=>?_;have h1:=List.getElem?_eq_getElem hi;rw[AL h1,AL (x:=min xs[i] k)];rw[List.getElem?_map,h1];rfl
def CP(xs ys:List Int)(k:Nat):Prop:=LI xs k<Ay ((sortD ys).take k)
theorem A6d{xs ys:List Int}{g:List (List Int)}(hg:CY xs ys xs.length ys.length g){k:Nat}(hk:k≤ys.length):¬CP xs ys k:=by
 obtain⟨h1,h2,h3⟩:=E0.1 hg;obtain⟨T,hT,hS⟩:=A4d ys hk;unfold CP;rw[←hS,ST];have e1:rs ys.length (fun j=>if T j then ys.getD j 0 else 0)=rs xs.length (fun i=>rs ys.length (fun j=>if T j then Al g i j else 0)):=by
  rw[QM];exact AN fun j hj=>by
   cases T j
   ·simp[CN]
   ·simp[h3 j hj]
 rw[e1,Int.not_lt];refine Fa fun i hi=>?_;have a1:rs ys.length (fun j=>if T j then Al g i j else 0)≤rs ys.length (fun j=>Al g i j):=Fa fun j _=>by
  have:=AE h1 i j;cases T j<;>simp<;>omega
 have a2:rs ys.length (fun j=>if T j then Al g i j else 0)≤rs ys.length (fun j=>if T j then 1 else 0):=Fa fun j _=>by
  have:=AE h1 i j;cases T j<;>simp;omega
 rw[h2 i hi] at a1;rw[hT] at a2;omega
theorem A5R{xs ys:List Int}(hs:Ay xs=Ay ys)(h:∀k,1≤k→k≤ys.length→¬CP xs ys k)(hx:∀i,0≤xs.getD i 0):∃g,CY xs ys xs.length ys.length g:=by
 rcases VP hs (l:=fun _ _=>0) (u:=fun _ _=>1) (fun _ _ _ _=>by decide) with⟨g,hg,-⟩|⟨A,B,hn⟩
 ·exact⟨g,hg⟩
 exfalso;unfold Bn at hn;obtain⟨k,hk⟩:∃k:Nat,rs ys.length (fun j=>if B j then 0 else 1)=k:=⟨(rs ys.length (fun j=>if B j then 0 else 1)).toNat,(Int.toNat_of_nonneg (Ey fun j _=>by split<;>decide)).symm⟩;have ah:k≤ys.length:=by
  have:=Fa (n:=ys.length) (f:=fun j=>if B j then 0 else 1) (g:=fun _=>1) (fun j _=>by split<;>decide);rw[Sf,hk] at this;omega
 have e1:rs xs.length (fun i=>rs ys.length (fun j=>gc (A i) (B j) 0 1))=0-rs xs.length (fun i=>if A i then(k:Int) else 0):=by
  have:rs xs.length (fun i=>rs ys.length (fun j=>gc (A i) (B j) 0 1))=rs xs.length (fun i=>0-if A i then(k:Int) else 0):=AN fun i _=>by
   cases hA:A i
   ·simp[gc,CN]
   ·rw[if_pos rfl,←hk,←CN ys.length,←ER];refine AN fun j _=>?_;cases B j<;>simp[gc,CN]
  rw[this,ER,CN]
 have e2:rs ys.length (fun j=>if(!B j) then ys.getD j 0 else 0)=rs ys.length (Td ys)-rs ys.length (fun j=>if B j then Td ys j else 0):=by
  rw[←ER];refine AN fun j _=>?_;cases B j<;>simp
 have e3:rs xs.length (fun i=>if A i then(k:Int) else Td xs i)=rs xs.length (Td xs)-rs xs.length (fun i=>if A i then Td xs i else 0)+rs xs.length (fun i=>if A i then(k:Int) else 0):=by
  rw[←ER,←Dx];refine AN fun j _=>?_;cases A j<;>simp
 have e4:LI xs k≤rs xs.length (fun i=>if A i then(k:Int) else Td xs i):=by
  rw[ST];exact Fa fun i _=>by show _≤(if A i then(k:Int) else xs.getD i 0);split<;>omega
 have e5:=A4U ys ah (fun j=>!B j) (by rw[←hk];exact AN fun j _=>by cases B j<;>rfl);have e6:rs xs.length (Td xs)=rs ys.length (Td ys):=by rw[←F8,←F8];exact hs
 rw[e1] at hn;have ns:CP xs ys k:=by unfold CP;omega
 by_cases h0:k=0
 ·subst h0;unfold CP at ns;have:0≤LI xs 0:=by
   rw[ST];exact Ey fun i _=>by have:=hx i;omega
  simp[G8] at ns;omega
 ·exact h k (by omega) ah ns
abbrev Sw:=Nat×Nat×Nat×Nat
abbrev Sw.y1(s:Sw):Nat:=s.1
abbrev Sw.y2(s:Sw):Nat:=s.2.1
abbrev Sw.x1(s:Sw):Nat:=s.2.2.1
abbrev Sw.x2(s:Sw):Nat:=s.2.2.2
def K4(g:List (List Int))(y x:Nat):List (List Int):=setC g y x (1-Al g y x)
def AQ(g:List (List Int))(s:Sw):List (List Int):=K4 (K4 (K4 (K4 g s.y1 s.x1) s.y1 s.x2) s.y2 s.x1) s.y2 s.x2
def CB(r c:Nat)(g:List (List Int))(s:Sw):Prop:=s.y1<s.y2∧s.y2<r∧s.x1<s.x2∧s.x2<c∧Al g s.y1 s.x1=Al g s.y2 s.x2∧Al g s.y1 s.x2=Al g s.y2 s.x1∧Al g s.y1 s.x1≠Al g s.y1 s.x2
instance(r c:Nat)(g:List (List Int))(s:Sw):Decidable (CB r c g s):=by unfold CB;infer_instance
theorem Ee{r c y x:Nat}{g:List (List Int)}(h:Ac r c g)(hy:y<r):Ac r c (K4 g y x):=by
 have:=AE h y x;exact El h hy (by omega) (by omega)
theorem M5{r c y x:Nat}{g:List (List Int)}(h:Ac r c g)(hy:y<r)(hx:x<c)(i j:Nat):Al (K4 g y x) i j=if i=y∧j=x then 1-Al g i j else Al g i j:=by
 unfold K4;rw[GR h hy hx]
 split
 ·rename_i e;rw[e.1,e.2]
 ·rfl
theorem Ci{r c:Nat}{g:List (List Int)}{s:Sw}(h:Ac r c g)(hs:CB r c g s):Ac r c (AQ g s):=by
 obtain⟨h1,h2,h3,h4,-⟩:=hs;exact Ee (Ee (Ee (Ee h (by omega)) (by omega)) h2) h2
theorem Db{r c:Nat}{g:List (List Int)}{s:Sw}(h:Ac r c g)(hs:CB r c g s)(i j:Nat):Al (AQ g s) i j=if(i=s.y1∨i=s.y2)∧(j=s.x1∨j=s.x2) then 1-Al g i j else Al g i j:=by
 obtain⟨h1,h2,h3,h4,-⟩:=hs;have a1:=Ee (x:=s.x1) h (show s.y1<r by omega);have a2:=Ee (x:=s.x2) a1 (show s.y1<r by omega);have a3:=Ee (x:=s.x1) a2 h2;unfold AQ;rw[M5 a3 h2 h4,M5 a2 h2 (by omega),M5 a1 (by omega) h4,M5 h (by omega) (by omega)];by_cases e1:i=s.y1
 ·by_cases e2:j=s.x1
  ·rw[if_neg (by omega),if_neg (by omega),if_neg (by omega),if_pos (by omega),if_pos (by omega)]
  ·by_cases e3:j=s.x2
   ·rw[if_neg (by omega),if_neg (by omega),if_pos (by omega),if_neg (by omega),if_pos (by omega)]
   ·rw[if_neg (by omega),if_neg (by omega),if_neg (by omega),if_neg (by omega),if_neg (by omega)]
 ·by_cases e4:i=s.y2
  ·by_cases e2:j=s.x1
   ·rw[if_neg (by omega),if_pos (by omega),if_neg (by omega),if_neg (by omega),if_pos (by omega)]
   ·by_cases e3:j=s.x2
    ·rw[if_pos (by omega),if_neg (by omega),if_neg (by omega),if_neg (by omega),if_pos (by omega)]
    ·rw[if_neg (by omega),if_neg (by omega),if_neg (by omega),if_neg (by omega),if_neg (by omega)]
  ·rw[if_neg (by omega),if_neg (by omega),if_neg (by omega),if_neg (by omega),if_neg (by omega)]
theorem Iu{r c:Nat}{g:List (List Int)}{s:Sw}(h:Ac r c g)(hs:CB r c g s):CB r c (AQ g s) s:=by
 have dj:=hs;obtain⟨h1,h2,h3,h4,h5,h6,h7⟩:=hs;refine⟨h1,h2,h3,h4,?_⟩;rw[Db h dj,Db h dj,Db h dj,Db h dj,if_pos (by omega),if_pos (by omega),if_pos (by omega),if_pos (by omega)];exact⟨by omega,by omega,by omega⟩
theorem FU{r c:Nat}{g:List (List Int)}{s:Sw}(h:Ac r c g)(hs:CB r c g s):AQ (AQ g s) s=g:=by
 have h1:=Ci h hs;have h2:=Iu h hs;refine(Ci h1 h2).ext h fun i j _ _=>?_;show Al _ i j=Al g i j;rw[Db h1 h2,Db h hs]
 split<;>omega
theorem A33{n a b:Nat}(ha:a<n)(hb:b<n)(aO:a≠b){f g:Nat→Int}(h:∀k,k<n→k≠a→k≠b→f k=g k)(gx:f a+f b=g a+g b):rs n f=rs n g:=by
 have h1:=Jk ha (f:=f) (g:=fun k=>if k=a then g a else f k) (fun k _ hk=>by rw[if_neg hk]);have h2:=Jk hb (f:=fun k=>if k=a then g a else f k) (g:=g) (fun k hk hkb=>by
  try dsimp only
  by_cases e:k=a
  ·rw[if_pos e,e]
  ·rw[if_neg e];exact h k hk e hkb)
 try dsimp only at h1 h2
 rw[if_pos rfl] at h1;rw[if_neg (fun e=>aO e.symm)] at h2;omega
theorem DI{xs ys:List Int}{r c:Nat}{g:List (List Int)}{s:Sw}(h:CY xs ys r c g)(hs:CB r c g s):CY xs ys r c (AQ g s):=by
 obtain⟨bA,hr,hc⟩:=E0.1 h;have dj:=hs;obtain⟨h1,h2,h3,h4,h5,h6,h7⟩:=hs;have b1:=AE bA s.y1 s.x1;have b2:=AE bA s.y1 s.x2;refine E0.2 ⟨Ci bA dj,fun i hi=>?_,fun j hj=>?_⟩
 ·rw[←hr i hi];refine A33 (show s.x1<c by omega) h4 (by omega) (fun k _ e1 e2=>by rw[Db bA dj,if_neg (by omega)]) ?_;rw[Db bA dj,Db bA dj];by_cases e1:i=s.y1
  ·rw[if_pos (by omega),if_pos (by omega),e1];omega
  ·by_cases e2:i=s.y2
   ·rw[if_pos (by omega),if_pos (by omega),e2];omega
   ·rw[if_neg (by omega),if_neg (by omega)]
 ·rw[←hc j hj];refine A33 (show s.y1<r by omega) h2 (by omega) (fun k _ e1 e2=>by rw[Db bA dj,if_neg (by omega)]) ?_;rw[Db bA dj,Db bA dj];by_cases e1:j=s.x1
  ·rw[if_pos (by omega),if_pos (by omega),e1];omega
  ·by_cases e2:j=s.x2
   ·rw[if_pos (by omega),if_pos (by omega),e2];omega
   ·rw[if_neg (by omega),if_neg (by omega)]
def BG(r c:Nat)(g h:List (List Int)):Int:=rs r (fun i=>rs c (fun j=>if Al g i j=Al h i j then 0 else 1))
theorem Ri(r c:Nat)(g h:List (List Int)):BG r c g h=BG r c h g:=AN fun i _=>AN fun j _=>by
 by_cases e:Al g i j=Al h i j
 ·rw[if_pos e,if_pos e.symm]
 ·rw[if_neg e,if_neg (fun x=>e x.symm)]
theorem SM{r c:Nat}{g h:List (List Int)}(hg:Ac r c g)(hh:Ac r c h)(hd:BG r c g h≤0):g=h:=by
 refine hg.ext hh fun i j hi hj=>?_;show Al g i j=Al h i j;apply Classical.byContradiction;intro aO;have h1:=Kw hi (f:=fun i=>rs c (fun j=>if Al g i j=Al h i j then(0:Int) else 1)) (fun i _=>Ey fun j _=>by split<;>decide);have h2:=Kw hj (f:=fun j=>if Al g i j=Al h i j then(0:Int) else 1) (fun j _=>by split<;>decide)
 try dsimp only at h1 h2
 rw[if_neg aO] at h2;unfold BG at hd;omega
theorem ZH(f:Nat→Int):∀r,0<r→∃a,a<r∧∀b,b<r→f b≤f a:=by
 intro r;induction r with
 |zero=>intro h;omega
 |succ r ih=>
  intro _;by_cases h0:r=0
  ·subst h0;refine⟨0,by omega,fun b hb=>?_⟩;have e:b=0:=by omega
   rw[e];exact Int.le_refl _
  ·obtain⟨a,ha,hm⟩:=ih (by omega);by_cases h:f a≤f r
   ·exact⟨r,by omega,fun b hb=>by
     by_cases e:b=r
     ·rw[e];exact Int.le_refl _
     ·have:=hm b (by omega);omega⟩
   ·exact⟨a,by omega,fun b hb=>by
     by_cases e:b=r
     ·rw[e];omega
     ·exact hm b (by omega)⟩
theorem QT{n:Nat}{f g:Nat→Int}(h:rs n f=rs n g){j:Nat}(hj:j<n)(aH:f j<g j):∃k,k<n∧g k<f k:=by
 apply Classical.byContradiction;intro hn;have h1:=ER n g f;have h2:=Kw hj (f:=fun k=>g k-f k) (fun k hk=>by
  apply Classical.byContradiction;intro bt;exact hn ⟨k,hk,by omega⟩)
 try dsimp only at h2
 omega
theorem XD{xs ys:List Int}{r c:Nat}{g h:List (List Int)}(hg:CY xs ys r c g)(hh:CY xs ys r c h)(aO:g≠h):
  ∃a b j k,a<r∧b<r∧j<c∧k<c∧Al g a j=1∧Al h a j=0∧Al g a k=0∧Al h a k=1∧Al g b j=0∧Al h b j=1∧(Al g b k=1∨Al h b k=0):=by
 obtain⟨gs,gr,gc⟩:=E0.1 hg;obtain⟨hs,hr,hc⟩:=E0.1 hh;have bg:=AE gs;have bh:=AE hs;have hN:∃i,i<r∧∃k,k<c∧Al g i k=0∧Al h i k=1:=by
  apply Classical.byContradiction;intro hn;apply aO;refine gs.ext hs fun i j hi hj=>?_;show Al g i j=Al h i j;apply Classical.byContradiction;intro hd;have e:rs c (fun j=>Al g i j)=rs c (fun j=>Al h i j):=(gr i hi).trans (hr i hi).symm;have b1:=bg i j;have b2:=bh i j;by_cases aH:Al g i j<Al h i j
  ·exact hn ⟨i,hi,j,hj,by omega,by omega⟩
  ·obtain⟨k,hk,bt⟩:=QT e.symm hj (by omega:Al h i j<Al g i j);have b3:=bg i k;have b4:=bh i k;exact hn ⟨i,hi,k,hk,by omega,by omega⟩
 obtain⟨i0,hi0,k0,aN,dB,bZ⟩:=hN;obtain⟨a,ha,mx⟩:=ZH (fun i=>rs c (fun k=>if Al g i k=0∧Al h i k=1 then 1 else 0)) r (by omega);have bF:0<rs c (fun k=>if Al g a k=0∧Al h a k=1 then(1:Int) else 0):=by
  have h1:=mx i0 hi0;have h2:=Kw aN (f:=fun k=>if Al g i0 k=0∧Al h i0 k=1 then(1:Int) else 0) (fun k _=>by split<;>decide)
  try dsimp only at h1 h2
  rw[if_pos ⟨dB,bZ⟩] at h2;omega
 obtain⟨k1,fU,hp1⟩:=A5O bF;have hk1z:Al g a k1=0∧Al h a k1=1:=by
  apply Classical.byContradiction;intro hn;rw[if_neg hn] at hp1;omega
 obtain⟨j,hj,hjlt⟩:=QT ((gr a ha).trans (hr a ha).symm) fU (show Al g a k1<Al h a k1 by omega);have b1:=bg a j;have b2:=bh a j;obtain⟨b,hb,hblt⟩:=QT ((hc j hj).trans (gc j hj).symm) ha (show Al h a j<Al g a j from hjlt);have b3:=bg b j;have b4:=bh b j;apply Classical.byContradiction;intro hn;have aR:∀k,k<c→Al g a k=0∧Al h a k=1→Al g b k=0∧Al h b k=1:=by
  intro k hk hz;have b5:=bg b k;have b6:=bh b k;apply Classical.byContradiction;intro fZ;exact hn ⟨a,b,j,k,ha,hb,hj,hk,by omega,by omega,hz.1,hz.2,by omega,by omega,by omega⟩
 have h1:=mx b hb;have h2:=Fa (n:=c) (f:=fun k=>(if Al g a k=0∧Al h a k=1 then(1:Int) else 0)+if k=j then 1 else 0) (g:=fun k=>if Al g b k=0∧Al h b k=1 then 1 else 0) (fun k hk=>by
  try dsimp only
  by_cases e:k=j
  ·subst e;rw[if_neg (by omega),if_pos rfl,if_pos (by omega)];omega
  ·rw[if_neg e]
   split
   ·rename_i hz
    rw[if_pos (aR k hk hz)];omega
   ·split<;>omega)
 rw[Dx,E8 hj (fun _=>1)] at h2
 try dsimp only at h1
 omega
def OP(a b j k:Nat):Sw:=(min a b,max a b,min j k,max j k)
theorem Wh{r c a b j k:Nat}{g:List (List Int)}(ha:a<r)(hb:b<r)(hj:j<c)(hk:k<c)(_:Al g a j=0∨Al g a j=1)(h2:Al g a k=1-Al g a j)(h3:Al g b j=1-Al g a j)(h4:Al g b k=Al g a j):CB r c g (OP a b j k):=by
 have gx:a≠b:=by rintro rfl;omega
 have kV:j≠k:=by rintro rfl;omega
 unfold CB OP;rcases Nat.lt_or_gt_of_ne gx with h|h<;>rcases Nat.lt_or_gt_of_ne kV with h'|h'
 ·rw[Nat.min_eq_left (by omega),Nat.max_eq_right (by omega),Nat.min_eq_left (by omega),Nat.max_eq_right (by omega)];simp only[Sw.y1,Sw.y2,Sw.x1,Sw.x2];omega
 ·rw[Nat.min_eq_left (by omega),Nat.max_eq_right (by omega),Nat.min_eq_right (by omega),Nat.max_eq_left (by omega)];simp only[Sw.y1,Sw.y2,Sw.x1,Sw.x2];omega
 ·rw[Nat.min_eq_right (by omega),Nat.max_eq_left (by omega),Nat.min_eq_left (by omega),Nat.max_eq_right (by omega)];simp only[Sw.y1,Sw.y2,Sw.x1,Sw.x2];omega
 ·rw[Nat.min_eq_right (by omega),Nat.max_eq_left (by omega),Nat.min_eq_right (by omega),Nat.max_eq_left (by omega)];simp only[Sw.y1,Sw.y2,Sw.x1,Sw.x2];omega
theorem A3d{a b j k i x:Nat}(h:(i=(OP a b j k).y1∨i=(OP a b j k).y2)∧(x=(OP a b j k).x1∨x=(OP a b j k).x2)):(i=a∨i=b)∧(x=j∨x=k):=by
 unfold OP at h;simp only[Sw.y1,Sw.y2,Sw.x1,Sw.x2] at h;omega
theorem A2P{a b j k i x:Nat}(h:(i=a∨i=b)∧(x=j∨x=k)):(i=(OP a b j k).y1∨i=(OP a b j k).y2)∧(x=(OP a b j k).x1∨x=(OP a b j k).x2):=by
 unfold OP;simp only[Sw.y1,Sw.y2,Sw.x1,Sw.x2];omega
theorem UC{r c a b j k:Nat}{g h:List (List Int)}(hg:Ac r c g)(hh:Ac r c h)(ha:a<r)(hb:b<r)(hj:j<c)(hk:k<c)(h1:Al g a j=0∨Al g a j=1)(h2:Al g a k=1-Al g a j)(h3:Al g b j=1-Al g a j)(h4:Al g b k=Al g a j)
  (e1:Al h a j=1-Al g a j)(e2:Al h a k=Al g a j)(e3:Al h b j=Al g a j):BG r c (AQ g (OP a b j k)) h<BG r c g h:=by
 have aD:=Wh (r:=r) (c:=c) ha hb hj hk h1 h2 h3 h4;have gx:a≠b:=by rintro rfl;omega
 have kV:j≠k:=by rintro rfl;omega
 have key:=Fa (n:=r) (f:=fun i=>rs c (fun x=>if Al (AQ g (OP a b j k)) i x=Al h i x then(0:Int) else 1)+rs c (fun x=>if i=a∧x=j then(1:Int) else 0)+rs c (fun x=>if i=a∧x=k then(1:Int) else 0))
  (g:=fun i=>rs c (fun x=>if Al g i x=Al h i x then(0:Int) else 1)+rs c (fun x=>if i=b∧x=k then(1:Int) else 0)) (fun i hi=>by
    try dsimp only
    rw[←Dx,←Dx,←Dx];refine Fa fun x hx=>?_;rw[Db hg aD];by_cases hm:(i=a∨i=b)∧(x=j∨x=k)
    ·rw[if_pos (A2P hm)];have b4:=AE hh b k;have b5:Al h b k=0∨Al h b k=1:=by omega
     rcases hm with⟨hi'|hi',hx'|hx'⟩
     ·rw[hi',hx',if_pos (show 1-Al g a j=Al h a j by omega),if_neg (show ¬Al g a j=Al h a j by omega),if_pos (show a=a∧j=j from⟨rfl,rfl⟩),if_neg (show ¬(a=a∧j=k) by omega),if_neg (show ¬(a=b∧j=k) by omega)];decide
     ·rw[hi',hx',if_pos (show 1-Al g a k=Al h a k by omega),if_neg (show ¬Al g a k=Al h a k by omega),if_pos (show a=a∧k=k from⟨rfl,rfl⟩),if_neg (show ¬(a=a∧k=j) by omega),if_neg (show ¬(a=b∧k=k) by omega)];decide
     ·rw[hi',hx',if_pos (show 1-Al g b j=Al h b j by omega),if_neg (show ¬Al g b j=Al h b j by omega),if_neg (show ¬(b=a∧j=j) by omega),if_neg (show ¬(b=a∧j=k) by omega),if_neg (show ¬(b=b∧j=k) by omega)];decide
     ·rw[hi',hx',if_neg (show ¬(b=a∧k=j) by omega),if_neg (show ¬(b=a∧k=k) by omega),if_pos (show b=b∧k=k from⟨rfl,rfl⟩)];by_cases e:Al g b k=Al h b k
      ·rw[if_pos e,if_neg (by omega)];decide
      ·rw[if_neg e,if_pos (by omega)];decide
    ·rw[if_neg (fun h=>hm (A3d h))];have n1:¬(i=a∧x=j):=fun h=>hm ⟨.inl h.1,.inl h.2⟩;have n2:¬(i=a∧x=k):=fun h=>hm ⟨.inl h.1,.inr h.2⟩;have n3:¬(i=b∧x=k):=fun h=>hm ⟨.inr h.1,.inr h.2⟩;rw[if_neg n1,if_neg n2,if_neg n3];omega)
 rw[Dx,Dx,Dx,VJ ha hj,VJ ha hk,VJ hb hk] at key;unfold BG;omega
theorem RS{xs ys:List Int}{r c:Nat}{g h:List (List Int)}(hg:CY xs ys r c g)(hh:CY xs ys r c h)(aO:g≠h):
  (∃s,CB r c g s∧BG r c (AQ g s) h<BG r c g h)∨∃s,CB r c h s∧BG r c g (AQ h s)<BG r c g h:=by
 obtain⟨a,b,j,k,ha,hb,hj,hk,h1,h2,h3,h4,h5,h6,h7⟩:=XD hg hh aO;have gs:=hg.1;have hs:=hh.1;by_cases h8:Al g b k=1
 ·exact .inl ⟨_,Wh ha hb hj hk (.inr h1) (by omega) (by omega) (by omega),UC gs hs ha hb hj hk (.inr h1) (by omega) (by omega) (by omega) (by omega) (by omega) (by omega)⟩
 ·right;have h9:Al h b k=0:=by have:=AE hs b k;omega
  refine⟨_,Wh ha hb hj hk (.inl h2) (by omega) (by omega) (by omega),?_⟩;have:=UC hs gs ha hb hj hk (.inl h2) (by omega) (by omega) (by omega) (by omega) (by omega) (by omega);rw[Ri r c h g,Ri r c _ g] at this;exact this
inductive Ih(r c:Nat):List (List Int)→List (List Int)→Prop
 |refl (g):Ih r c g g
 |step {g h:List (List Int)} {s:Sw}:Ih r c g h→CB r c h s→Ih r c g (AQ h s)
theorem Ih.trans{r c:Nat}{a b d:List (List Int)}(h1:Ih r c a b)(h2:Ih r c b d):Ih r c a d:=by
 induction h2 with
 |refl=>exact h1
 |step _ hs ih=>exact .step ih hs
theorem Ih.sums{r c:Nat}{xs ys:List Int}{a b:List (List Int)}(h1:Ih r c a b)(h:CY xs ys r c a):CY xs ys r c b:=by
 induction h1 with
 |refl=>exact h
 |step _ hs ih=>exact DI ih hs
theorem Ih.shape{r c:Nat}{a b:List (List Int)}(h1:Ih r c a b)(h:Ac r c a):Ac r c b:=by
 induction h1 with
 |refl=>exact h
 |step _ hs ih=>exact Ci ih hs
theorem Ih.symm{r c:Nat}{a b:List (List Int)}(h1:Ih r c a b)(h:Ac r c a):Ih r c b a:=by
 induction h1 with
 |refl=>exact .refl _
 |@step b s h2 hs ih=>
  have hb:=h2.shape h;have h3:Ih r c (AQ b s) b:=by
   have:=Ih.step (.refl (AQ b s)) (Iu hb hs);rwa[FU hb hs] at this
  exact h3.trans ih
theorem A66{xs ys:List Int}{r c:Nat}:∀(n:Nat){g h:List (List Int)},CY xs ys r c g→CY xs ys r c h→BG r c g h≤n→Ih r c g h:=by
 intro n;induction n with
 |zero=>intro g h hg hh hd;rw[SM hg.1 hh.1 hd];exact .refl _
 |succ n ih=>
  intro g h hg hh hd;by_cases aO:g=h
  ·rw[aO];exact .refl _
  rcases RS hg hh aO with⟨s,hs,aH⟩|⟨s,hs,aH⟩
  ·exact(Ih.step (.refl g) hs).trans (ih (DI hg hs) hh (by omega))
  ·have h1:=ih hg (DI hh hs) (by omega);have h2:=Ih.step (.refl h) hs;exact h1.trans (h2.symm hh.1)
theorem QZ{xs ys:List Int}{r c:Nat}{g h:List (List Int)}(hg:CY xs ys r c g)(hh:CY xs ys r c h):Ih r c g h:=A66 _ hg hh (Int.self_le_toNat _)
theorem Ih.first{r c:Nat}{g h:List (List Int)}(hj:Ih r c g h)(aO:g≠h):∃s,CB r c g s:=by
 induction hj with
 |refl=>exact absurd rfl aO
 |@step b s h2 hs ih=>
  by_cases e:g=b
  ·subst e;exact⟨s,hs⟩
  ·exact ih e
theorem A0S{xs ys:List Int}{r c:Nat}{g:List (List Int)}(hg:CY xs ys r c g):(∀h,CY xs ys r c h→h=g)↔∀s,¬CB r c g s:=by
 constructor
 ·intro hu s hs;have h1:=hu _ (DI hg hs);have h2:=Db hg.1 hs s.y1 s.x1;rw[h1,if_pos ⟨.inl rfl,.inl rfl⟩] at h2;omega
 ·intro hn h hh;apply Classical.byContradiction;intro aO;obtain⟨s,hs⟩:=(QZ hg hh).first (fun e=>aO e.symm)
  exact hn s hs
theorem Zk.irrefl{r c:Nat}{a:List (List Int)}:¬Zk r c a a:=by rintro⟨y,x,-,-,-,h⟩;omega
theorem Zk.asymm{r c:Nat}{a b:List (List Int)}(h:Zk r c a b)(k:Zk r c b a):False:=by
 obtain⟨y,x,h1,h2,h3,h4⟩:=h;obtain⟨y',x',k1,k2,k3,k4⟩:=k;by_cases e:y<y'∨y=y'∧x<x'
 ·have:=k3 y x e;omega
 ·by_cases e2:y'<y∨y'=y∧x'<x
  ·have:=h3 y' x' e2;omega
  ·have e3:y=y'∧x=x':=by omega
   obtain⟨rfl,rfl⟩:=e3;omega
theorem Ug{α:Type}{R:α→α→Prop}(irr:∀a,¬R a a)(asy:∀a b,R a b→R b a→False){l1 l2:List α}(h1:l1.Pairwise R)(h2:l2.Pairwise R)(hm:∀x,x∈l1↔x∈l2):l1=l2:=by
 induction l1 generalizing l2 with
 |nil=>
  cases l2 with
  |nil=>rfl
  |cons b l2=>exact absurd ((hm b).2 (by simp)) (by simp)
 |cons a l1 ih=>
  cases l2 with
  |nil=>exact absurd ((hm a).1 (by simp)) (by simp)
  |cons b l2=>
   rw[List.pairwise_cons] at h1 h2;have e:a=b:=by
    rcases List.mem_cons.1 ((hm a).1 (by simp)) with e|e
    ·exact e
    ·rcases List.mem_cons.1 ((hm b).2 (by simp)) with e'|e'
     ·exact e'.symm
     ·exact(asy _ _ (h1.1 b e') (h2.1 a e)).elim
   subst e;rw[ih h1.2 h2.2 fun x=>?_];constructor
   ·intro hx;rcases List.mem_cons.1 ((hm x).1 (List.mem_cons_of_mem _ hx)) with e|e
    ·subst e;exact absurd (h1.1 x hx) (irr _)
    ·exact e
   ·intro hx;rcases List.mem_cons.1 ((hm x).2 (List.mem_cons_of_mem _ hx)) with e|e
    ·subst e;exact absurd (h2.1 x hx) (irr _)
    ·exact e
theorem Me{α β:Type}[DecidableEq β](f:α→β):∀(l1:List α)(l2:List β),l1.Pairwise (fun a b=>f a≠f b)→(∀x∈l1,f x∈l2)→l1.length≤l2.length
 |[],_,_,_=>by simp
 |a::l1,l2,h,hm=>by
  rw[List.pairwise_cons] at h;have h1:=hm a (by simp);have h2:=Me f l1 (l2.erase (f a)) h.2 fun x hx=>by
   have:=hm x (List.mem_cons_of_mem _ hx);exact(List.mem_erase_of_ne (fun e=>h.1 x hx e.symm)).2 this
  rw[List.length_erase_of_mem h1] at h2;have:=List.length_pos_of_mem h1;rw[List.length_cons];omega
theorem A5K{m:List (List Int)}{r c:Nat}(h:Ac r c m)(h1:1≤r){i j:Nat}(hi:i<c)(hj:j<r):Al (tr m) i j=Al m j i:=by
 unfold Al;rw[AL (A65 h h1 hi)];exact AL (by rw[List.getElem?_map,List.getElem?_range hj];rfl)
theorem Tp{xs ys:List Int}(h:AF xs ys=true):(Bi xs ys).Pairwise (fun a b=>a≠b):=
 (Ls h).imp fun aH e=>by subst e;exact Zk.irrefl aH
instance(xs ys:List Int)(k:Nat):Decidable (CP xs ys k):=by unfold CP;infer_instance
def Fw(xs ys:List Int):Nat:=match(List.range ys.length).find? (fun i=>decide (CP xs ys (i+1))) with
 |some i=>i+1
 |none=>0
def Fb(xs ys:List Int):Nat:=if AF xs ys then Fw xs ys else 0
def Bu(xs ys:List Int):Bool:=AF xs ys&&decide (Fb xs ys=0)
theorem Lt{xs ys:List Int}:Fw xs ys=0↔∀k,1≤k→k≤ys.length→¬CP xs ys k:=by
 unfold Fw
 split
 ·rename_i i hi
  have h1:=List.find?_some hi;have h2:=List.mem_of_find?_eq_some hi;rw[List.mem_range] at h2;exact⟨fun h=>by omega,fun h=>absurd (by simpa using h1) (h (i+1) (by omega) (by omega))⟩
 ·rename_i hi
  refine⟨fun _ k h1 h2=>?_,fun _=>rfl⟩;have:=List.find?_eq_none.1 hi (k-1) (List.mem_range.2 (by omega));rw[show k-1+1=k by omega] at this;simpa using this
theorem A0U{xs ys:List Int}(h:Fw xs ys≠0):1≤Fw xs ys∧Fw xs ys≤ys.length∧CP xs ys (Fw xs ys):=by
 unfold Fw at h⊢
 split
 ·rename_i i hi
  have h1:=List.find?_some hi;have h2:=List.mem_of_find?_eq_some hi;rw[List.mem_range] at h2;exact⟨by omega,by omega,by simpa using h1⟩
 ·rename_i hi
  rw[hi] at h;exact absurd rfl h
theorem IZ{xs ys:List Int}(h:AF xs ys=true):Bu xs ys=true↔∃g,CY xs ys xs.length ys.length g:=by
 obtain⟨h1,h2,h3,h4,h5,h6,h7⟩:=BC h;unfold Bu Fb;rw[h];simp only[if_true,Bool.true_and,decide_eq_true_eq];rw[Lt];exact⟨fun hk=>A5R h7 hk fun i=>(h5 i).1,fun⟨g,hg⟩ k _ hk=>A6d hg hk⟩
theorem Oo{xs ys:List Int}(h:AF xs ys=true):Bu xs ys=true↔Bi xs ys≠[]:=by
 rw[IZ h];constructor
 ·rintro⟨g,hg⟩ e;have:=(Dp h g).2 hg;rw[e] at this;cases this
 ·intro aO;obtain⟨g,hg⟩:=List.exists_mem_of_ne_nil _ aO;exact⟨g,(Dp h g).1 hg⟩
theorem Fy{xs ys:List Int}(h:Bu xs ys=true):AF xs ys=true:=by
 unfold Bu at h;rw[Bool.and_eq_true] at h;exact h.1
def Cc:Nat→Int→List (List Int)
 |0,k=>if k=0 then[[]] else[]
 |n+1,k=>(if 0≤k then(Cc n k).map (0:: ·) else[])++(if 1≤k then(Cc n (k-1)).map (1:: ·) else[])
theorem FQ{n:Nat}:∀{k:Int}{l:List Int},l∈Cc n k↔l.length=n∧(∀x∈l,0≤x∧x≤1)∧Ay l=k:=by
 induction n with
 |zero=>
  intro k l;unfold Cc;constructor
  ·intro h
   split at h
   ·rename_i hk
    rw[List.mem_singleton] at h;subst h;subst hk;exact⟨rfl,by simp,rfl⟩
   ·cases h
  ·rintro⟨h1,-,h3⟩;have:l=[]:=List.eq_nil_of_length_eq_zero h1;subst this;rw[G8] at h3;rw[if_pos h3.symm];simp
 |succ n ih=>
  intro k l;unfold Cc;rw[List.mem_append];constructor
  ·rintro(h|h)
   ·split at h
    ·obtain⟨t,ht,rfl⟩:=List.mem_map.1 h;obtain⟨h1,h2,h3⟩:=ih.1 ht;refine⟨by simp[h1],fun x hx=>?_,by rw[Bs];omega⟩;rcases List.mem_cons.1 hx with rfl|hx
     ·omega
     ·exact h2 x hx
    ·cases h
   ·split at h
    ·obtain⟨t,ht,rfl⟩:=List.mem_map.1 h;obtain⟨h1,h2,h3⟩:=ih.1 ht;refine⟨by simp[h1],fun x hx=>?_,by rw[Bs];omega⟩;rcases List.mem_cons.1 hx with rfl|hx
     ·omega
     ·exact h2 x hx
    ·cases h
  ·rintro⟨h1,h2,h3⟩;cases l with
   |nil=>simp at h1
   |cons a l=>
    have ha:=h2 a (by simp);have hl:∀x∈l,0≤x∧x≤1:=fun x hx=>h2 x (List.mem_cons_of_mem _ hx);rw[Bs] at h3;have hb:=UU (l:=l) fun i hi=>by rw[AL (List.getElem?_eq_getElem hi)];exact hl _ (List.getElem_mem hi)
    have h1:l.length=n:=by simpa using h1
    by_cases e:a=0
    ·left;rw[if_pos (by omega)];exact List.mem_map.2 ⟨l,ih.2 ⟨h1,hl,by omega⟩,by rw[e]⟩
    ·right;rw[if_pos (by omega)];exact List.mem_map.2 ⟨l,ih.2 ⟨h1,hl,by omega⟩,by rw[show a=1 by omega]⟩
def LLt(a b:List Int):Prop:=∃x,x<a.length∧(∀j,j<x→a.getD j 0=b.getD j 0)∧a.getD x 0<b.getD x 0
theorem LLt.cons{a b:List Int}(z:Int)(h:LLt a b):LLt (z::a) (z::b):=by
 obtain⟨x,h1,h2,h3⟩:=h;refine⟨x+1,by simp;omega,fun j hj=>?_,by simpa using h3⟩;cases j with
 |zero=>simp
 |succ j=>have:=h2 j (by omega);simpa using this
theorem SO{n:Nat}:∀{k:Int},(Cc n k).Pairwise LLt:=by
 induction n with
 |zero=>intro k;unfold Cc;split<;>simp
 |succ n ih=>
  intro k;unfold Cc;rw[List.pairwise_append];refine⟨?_,?_,?_⟩
  ·split
   ·exact List.pairwise_map.2 (ih.imp fun h=>h.cons 0)
   ·exact List.Pairwise.nil
  ·split
   ·exact List.pairwise_map.2 (ih.imp fun h=>h.cons 1)
   ·exact List.Pairwise.nil
  ·intro a ha b hb
   split at ha
   ·split at hb
    ·obtain⟨a',-,rfl⟩:=List.mem_map.1 ha;obtain⟨b',-,rfl⟩:=List.mem_map.1 hb;exact⟨0,by simp,fun j hj=>by omega,by simp⟩
    ·cases hb
   ·cases ha
def Be(cols row:List Int):List Int:=List.zipWith (fun k x=>k-x) cols row
def Ej(cols row:List Int):Bool:=(List.zipWith (fun k x=>decide (x≤k)) cols row).all id
def EB(rows left:List Int):Bool:=if rows.length=0 then decide (Ay left=0) else Bu rows left
def BF:List Int→List Int→List (List (List Int))
 |[],_=>[[]]
 |r::rows,cols=>(Cc cols.length r).flatMap fun row=>if Ej cols row&&EB rows (Be cols row) then(BF rows (Be cols row)).map (row:: ·) else[]
theorem F6{cols row:List Int}(h:row.length=cols.length):(Be cols row).length=cols.length:=by
 unfold Be;rw[List.length_zipWith,h,Nat.min_self]
theorem GX{cols row:List Int}(h:row.length=cols.length){j:Nat}(hj:j<cols.length):(Be cols row).getD j 0=cols.getD j 0-row.getD j 0:=by
 unfold Be;rw[AL (x:=cols.getD j 0-row.getD j 0)];rw[List.getElem?_zipWith,BE 0 hj,BE 0 (by omega:j<row.length)]
theorem GW{cols row:List Int}(h:row.length=cols.length):Ej cols row=true↔∀j,j<cols.length→0≤(Be cols row).getD j 0:=by
 unfold Ej;rw[List.all_eq_true];constructor
 ·intro hx j hj;rw[GX h hj];have:=hx (decide (row.getD j 0≤cols.getD j 0)) (List.mem_iff_getElem?.2 ⟨j,by rw[List.getElem?_zipWith,BE 0 hj,BE 0 (by omega:j<row.length)]⟩);simp only[id,decide_eq_true_eq] at this;omega
 ·intro hx b hb;obtain⟨j,hj⟩:=List.getElem?_of_mem hb;have gC:=(List.getElem?_eq_some_iff.1 hj).1;rw[List.length_zipWith] at gC;have iO:j<cols.length:=by omega
  rw[List.getElem?_zipWith,BE 0 iO,BE 0 (by omega:j<row.length)] at hj;have:=hx j iO;rw[GX h iO] at this;simp only[Option.some.injEq] at hj;subst hj;simp only[id,decide_eq_true_eq];omega
theorem V5{r:Int}{rows cols row:List Int}{g:List (List Int)}(hl:row.length=cols.length):CY (r::rows) cols (rows.length+1) cols.length (row::g)↔((∀x∈row,0≤x∧x≤1)∧Ay row=r)∧CY rows (Be cols row) rows.length cols.length g:=by
 have j6:∀j,QD (row::g) j=row.getD j 0+QD g j:=fun j=>by unfold QD;rw[List.map_cons,Bs]
 constructor
 ·rintro⟨⟨h1,h2⟩,h3,h4⟩;refine⟨⟨(h2 row (by simp)).2,by have:=h3 0 (by omega);simpa using this⟩,⟨by simpa using h1,fun q hq=>h2 q (List.mem_cons_of_mem _ hq)⟩,fun i hi=>by have:=h3 (i+1) (by omega);simpa using this,fun j hj=>?_⟩;rw[GX hl hj];have:=h4 j hj;rw[j6] at this;omega
 ·rintro⟨⟨h1,h2⟩,⟨h3,h4⟩,h5,h6⟩;refine⟨⟨by simp[h3],fun q hq=>?_⟩,fun i hi=>?_,fun j hj=>?_⟩
  ·rcases List.mem_cons.1 hq with rfl|hq
   ·exact⟨hl,h1⟩
   ·exact h4 q hq
  ·cases i with
   |zero=>simpa using h2
   |succ i=>have:=h5 i (by omega);simpa using this
  ·rw[j6,h6 j hj,GX hl hj];omega
theorem Ip{xs ys:List Int}{g:List (List Int)}(h1:1≤xs.length)(h2:xs.length≤5)(h3:1≤ys.length)(h4:ys.length≤5)(hg:CY xs ys xs.length ys.length g):AF xs ys=true:=by
 obtain⟨hs,hr,hc⟩:=E0.1 hg;have key:∀(l:List Int)(n:Nat),(∀i,i<l.length→0≤l.getD i 0∧l.getD i 0≤n)→l.all (BR 0 n)=true:=by
  intro l n hl;rw[List.all_eq_true];intro x hx;obtain⟨i,hi,rfl⟩:=List.getElem_of_mem hx;have:=hl i hi;rw[AL (List.getElem?_eq_getElem hi)] at this;exact Fg this.1 this.2
 have e:Ay xs=Ay ys:=by
  rw[F8,F8,←AN hr,←AN hc];exact QM _ _ _
 simp only[AF,Bool.and_eq_true,decide_eq_true_eq,AT];refine⟨⟨⟨⟨⟨by omega,by omega⟩,by omega,by omega⟩,key _ _ fun i hi=>?_⟩,key _ _ fun j hj=>?_⟩,e⟩
 ·rw[←hr i hi];refine⟨Ey fun j _=>(AE hs i j).1,?_⟩;have:=Fa (n:=ys.length) (f:=fun j=>Al g i j) (g:=fun _=>1) fun j _=>(AE hs i j).2;rw[Sf] at this;omega
 ·rw[←hc j hj];refine⟨Ey fun i _=>(AE hs i j).1,?_⟩;have:=Fa (n:=xs.length) (f:=fun i=>Al g i j) (g:=fun _=>1) fun i _=>(AE hs i j).2;rw[Sf] at this;omega
theorem LG:∀{rows cols:List Int}{g:List (List Int)},rows.length≤5→1≤cols.length→cols.length≤5→(rows=[]→∀j,j<cols.length→cols.getD j 0=0)→(g∈BF rows cols↔CY rows cols rows.length cols.length g)
 |[],cols,g,_,_,_,h0=>by
  unfold BF;rw[List.mem_singleton];constructor
  ·rintro rfl;exact⟨⟨rfl,by simp⟩,fun i hi=>by simp at hi,fun j hj=>by rw[h0 rfl j hj];rfl⟩
  ·rintro⟨⟨h1,-⟩,-⟩;exact List.eq_nil_of_length_eq_zero h1
 |r::rows,cols,g,hr,hc1,hc5,_=>by
  unfold BF;rw[List.mem_flatMap];have jj:rows.length≤4:=by simpa using hr
  constructor
  ·rintro⟨row,aG,hg⟩;obtain⟨hl,hb,hs⟩:=FQ.1 aG
   split at hg
   ·rename_i hcnd
    rw[Bool.and_eq_true] at hcnd;obtain⟨g',mE,rfl⟩:=List.mem_map.1 hg;have dX:=F6 hl;have dE:=(GW hl).1 hcnd.1;have:=(LG (rows:=rows) (cols:=Be cols row) (by omega) (by omega) (by omega) (fun e j hj=>by
     have h2:=hcnd.2;unfold EB at h2;rw[e] at h2;simp only[List.length_nil,if_true,decide_eq_true_eq] at h2;rw[F8] at h2;have h3:=Kw hj (f:=fun i=>(Be cols row).getD i 0) (fun i hi=>dE i (by omega));have h4:=dE j (by omega);omega)).1 mE
    rw[dX] at this;exact(V5 hl).2 ⟨⟨hb,hs⟩,this⟩
   ·cases hg
  ·intro hg;cases g with
   |nil=>exact absurd hg.1.1 (by simp)
   |cons row g=>
    have hl:=(hg.1.2 row (by simp)).1;obtain⟨⟨hb,hs⟩,mE⟩:=(V5 hl).1 hg;have dX:=F6 hl;refine⟨row,FQ.2 ⟨hl,hb,hs⟩,?_⟩;have mC:∀j,j<cols.length→0≤(Be cols row).getD j 0:=fun j hj=>by
     rw[←(E0.1 mE).2.2 j hj];exact Ey fun i _=>(AE mE.1 i j).1
    have pn:rows=[]→∀j,j<(Be cols row).length→(Be cols row).getD j 0=0:=fun e j hj=>by
     have:=(E0.1 mE).2.2 j (by omega);rw[e] at this;exact this.symm
    rw[←dX] at mE;have xT:EB rows (Be cols row)=true:=by
     unfold EB
     split
     ·rename_i e
      have e':rows=[]:=List.eq_nil_of_length_eq_zero e;rw[decide_eq_true_eq,F8];exact K3 fun j hj=>pn e' j hj
     ·rename_i e
      exact(IZ (Ip (by omega) (by omega) (by omega) (by omega) mE)).2 ⟨g,mE⟩
    rw[if_pos (by rw[Bool.and_eq_true];exact⟨(GW hl).2 mC,xT⟩)];exact List.mem_map.2 ⟨g,(LG (by omega) (by omega) (by omega) pn).2 mE,rfl⟩
theorem Zk.cons{r c:Nat}{a b:List (List Int)}(row:List Int)(h:Zk r c a b):Zk (r+1) c (row::a) (row::b):=by
 obtain⟨y,x,h1,h2,h3,h4⟩:=h;refine⟨y+1,x,by omega,h2,fun i j hij=>?_,by simpa[Al] using h4⟩;cases i with
 |zero=>rfl
 |succ i=>have:=h3 i j (by omega);simpa[Al] using this
theorem J7{α β:Type}{R:β→β→Prop}{Q:α→α→Prop}(f:α→List β):∀(l:List α),l.Pairwise Q→(∀a∈l,(f a).Pairwise R)→(∀a∈l,∀b∈l,Q a b→∀x∈f a,∀y∈f b,R x y)→(l.flatMap f).Pairwise R
 |[],_,_,_=>by simp
 |a::l,h1,h2,h3=>by
  rw[List.pairwise_cons] at h1;rw[List.flatMap_cons,List.pairwise_append];refine⟨h2 a (by simp),J7 f l h1.2 (fun b hb=>h2 b (List.mem_cons_of_mem _ hb)) (fun b hb b' kx=>h3 b (List.mem_cons_of_mem _ hb) b' (List.mem_cons_of_mem _ kx)),fun x hx y hy=>?_⟩;obtain⟨b,hb,hy⟩:=List.mem_flatMap.1 hy;exact h3 a (by simp) b (List.mem_cons_of_mem _ hb) (h1.1 b hb) x hx y hy
theorem LY:∀(rows cols:List Int),(BF rows cols).Pairwise (Zk rows.length cols.length)
 |[],_=>by unfold BF;simp
 |r::rows,cols=>by
  unfold BF;refine J7 (Q:=LLt) _ _ SO (fun row aG=>?_) (fun a ha b hb gx x hx y hy=>?_)
  ·have hl:=F6 (FQ.1 aG).1
   split
   ·refine List.pairwise_map.2 ((LY rows (Be cols row)).imp fun h=>?_);rw[hl] at h;exact h.cons row
   ·exact List.Pairwise.nil
  ·split at hx
   ·split at hy
    ·obtain⟨g,-,rfl⟩:=List.mem_map.1 hx;obtain⟨h,-,rfl⟩:=List.mem_map.1 hy;obtain⟨k,h1,h2,h3⟩:=gx;refine⟨0,k,by simp,by rw[←(FQ.1 ha).1];exact h1,fun i j hij=>?_,by simpa[Al] using h3⟩;have e:i=0∧j<k:=by omega
     rw[e.1];have:=h2 j e.2;simpa[Al] using this
    ·cases hy
   ·cases hx
theorem EH{xs ys:List Int}(h:AF xs ys=true):BF xs ys=Bi xs ys:=by
 obtain⟨h1,h2,h3,h4,-⟩:=BC h;refine Ug (fun a=>Zk.irrefl) (fun a b=>Zk.asymm) (LY xs ys) (Ls h) fun g=>?_;rw[LG h2 h3 h4 (fun e=>by rw[e] at h1;simp at h1),Dp h]
def Cx(dx dy:Int):Bool:=BR 0 3 dx&&BR (-3) 3 dy&&decide (Int.gcd dx dy=1)&&(decide (0<dx)||decide (dy=1))
def EU(c:Nat)(dx dy y x:Int):Int:=dx*y-dy*x+max 0 (dy*((c:Int)-1))
def Qf(r c:Nat)(dx dy:Int):Int:=max (EU c dx dy ((r:Int)-1) 0) (EU c dx dy ((r:Int)-1) ((c:Int)-1))+1
theorem FF{dx dy:Int}(h:Cx dx dy=true):0≤dx∧dx≤3∧-3≤dy∧dy≤3:=by
 simp only[Cx,BR,Bool.and_eq_true,decide_eq_true_eq] at h;omega
theorem GC{r c:Nat}{dx dy:Int}(h:0≤dx∧dx≤3∧-3≤dy∧dy≤3){y x:Int}(jm:0≤y)(hy:y<r)(eu:0≤x)(hx:x<c):0≤EU c dx dy y x∧EU c dx dy y x<Qf r c dx dy:=by
 obtain⟨h1,h2,h3,h4⟩:=h;have e1:dx=0∨dx=1∨dx=2∨dx=3:=by omega
 have e2:dy=-3∨dy=-2∨dy=-1∨dy=0∨dy=1∨dy=2∨dy=3:=by omega
 unfold Qf EU;rcases e1 with rfl|rfl|rfl|rfl<;>rcases e2 with rfl|rfl|rfl|rfl|rfl|rfl|rfl<;>omega
theorem A4W{r c:Nat}{dx dy:Int}:Qf r c dx dy=EU c dx dy ((r:Int)-1) 0+1∨Qf r c dx dy=EU c dx dy ((r:Int)-1) ((c:Int)-1)+1:=by
 unfold Qf;omega
theorem K5{r c:Nat}{dx dy:Int}(h:0≤dx∧dx≤3∧-3≤dy∧dy≤3)(hr1:1≤r)(hr:r≤5)(hc1:1≤c)(hc:c≤5):1≤Qf r c dx dy∧Qf r c dx dy≤25:=by
 obtain⟨h1,h2,h3,h4⟩:=h;have e1:dx=0∨dx=1∨dx=2∨dx=3:=by omega
 have e2:dy=-3∨dy=-2∨dy=-1∨dy=0∨dy=1∨dy=2∨dy=3:=by omega
 unfold Qf EU;rcases e1 with rfl|rfl|rfl|rfl<;>rcases e2 with rfl|rfl|rfl|rfl|rfl|rfl|rfl<;>omega
theorem A4g(c:Nat)(dx dy y x:Int):dx*y-dy*x-min 0 (-dy*((c:Int)-1))=EU c dx dy y x:=by
 unfold EU;rw[Int.neg_mul];omega
def IQ(l:List Int)(k:Nat)(v:Int):List Int:=l.set k (l.getD k 0+v)
def Gl(m:List (List Int))(c:Nat)(dx dy:Int)(y:Nat):Nat→List Int→List Int
 |0,l=>l
 |k+1,l=>Gl m c dx dy y k (IQ l (EU c dx dy y ((c-(k+1):Nat):Int)).toNat (Al m y (c-(k+1))))
def E6(m:List (List Int))(r c:Nat)(dx dy:Int):Nat→List Int→List Int
 |0,l=>l
 |k+1,l=>E6 m r c dx dy k (Gl m c dx dy (r-(k+1)) c l)
def BA(m:List (List Int))(dx dy:Int):List Int:=
 if Af m=true∧Cx dx dy=true then E6 m m.length (m.headD []).length dx dy m.length (List.replicate (Qf m.length (m.headD []).length dx dy).toNat 0) else[]
theorem Ta{m:List (List Int)}{c y x:Nat}{dx dy:Int}(h:x<c)(l:List Int):
  Gl m c dx dy y (c-x) l=Gl m c dx dy y (c-(x+1)) (IQ l (EU c dx dy y x).toNat (Al m y x)):=by
 have e:c-x=(c-(x+1))+1:=by omega
 have e2:c-((c-(x+1))+1)=x:=by omega
 rw[e,Gl,e2]
theorem Sx{m:List (List Int)}{r c y:Nat}{dx dy:Int}(h:y<r)(l:List Int):E6 m r c dx dy (r-y) l=E6 m r c dx dy (r-(y+1)) (Gl m c dx dy y c l):=by
 have e:r-y=(r-(y+1))+1:=by omega
 have e2:r-((r-(y+1))+1)=y:=by omega
 rw[e,E6,e2]
theorem JR(l:List Int)(k:Nat)(v:Int):(IQ l k v).length=l.length:=List.length_set
def Lh(b:Int)(l:List Int):Prop:=∀v∈l,0≤v∧v≤b
theorem Lh.add{b:Int}{l:List Int}(h:Lh b l){k:Nat}{v:Int}(hk:k<l.length)(h0:0≤v)(h1:v≤1):Lh (b+1) (IQ l k v):=by
 intro w hw;unfold IQ at hw;rcases List.mem_or_eq_of_mem_set hw with h2|rfl
 ·have:=h w h2;omega
 ·have:=h (l.getD k 0) (List.mem_of_getElem? (BE 0 hk));omega
theorem ZO{m:List (List Int)}{r c y:Nat}{dx dy:Int}(hm:Ac r c m)(hd:0≤dx∧dx≤3∧-3≤dy∧dy≤3)(hy:y<r)(k:Nat):∀(l:List Int)(b:Int),k≤c→l.length=(Qf r c dx dy).toNat→Lh b l→Lh (b+k) (Gl m c dx dy y k l)∧(Gl m c dx dy y k l).length=l.length:=by
 induction k with
 |zero=>intro l b _ _ h;exact⟨by simpa[Gl] using h,rfl⟩
 |succ k ih=>
  intro l b hk hl h;rw[Gl];have hb:=AE hm y (c-(k+1));have hr:=GC (r:=r) (c:=c) hd (y:=y) (x:=((c-(k+1):Nat):Int)) (by omega) (by omega) (by omega) (by omega);have h2:=h.add (k:=(EU c dx dy y ((c-(k+1):Nat):Int)).toNat) (by omega) hb.1 hb.2;obtain⟨h3,h4⟩:=ih _ (b+1) (by omega) (by rw[JR];exact hl) h2;refine⟨?_,by rw[h4,JR]⟩;have e:b+1+(k:Int)=b+((k+1:Nat):Int):=by omega
  rw[e] at h3;exact h3
def blk(g:List (List Int)):Nat:=(Ay (g.map Ay)).toNat
def isB(r c:Nat)(g:List (List Int))(y x:Int):Bool:=decide (0≤y)&&decide (y<r)&&decide (0≤x)&&decide (x<c)&&decide (Al g y.toNat x.toNat=1)
def Et(r c:Nat):Nat→List (List Int)→Int→Int→List (List Int)
 |0,g,_,_=>g
 |k+1,g,y,x=>if isB r c g y x=true then Et r c k (Et r c k (Et r c k (Et r c k (setC g y.toNat x.toNat 0) (y-1) x) (y+1) x) y (x-1)) y (x+1) else g
theorem Px{r c:Nat}{g:List (List Int)}{y x:Int}(h:isB r c g y x=true):0≤y∧y.toNat<r∧0≤x∧x.toNat<c∧Al g y.toNat x.toNat=1:=by
 simp only[isB,Bool.and_eq_true,decide_eq_true_eq] at h;omega
theorem PP{l:List Int}(h:∀x∈l,0≤x):0≤Ay l:=by
 induction l with
 |nil=>rw[G8];omega
 |cons a l ih=>
  rw[Bs];have h1:=h a List.mem_cons_self;have h2:=ih (fun x hx=>h x (List.mem_cons_of_mem _ hx));omega
theorem Np{r c:Nat}{g:List (List Int)}(h:Ac r c g):0≤Ay (g.map Ay):=by
 apply PP;intro x hx;obtain⟨row,hr,rfl⟩:=List.mem_map.mp hx;exact PP (fun v hv=>((h.2 row hr).2 v hv).1)
theorem Vz{r c:Nat}{g:List (List Int)}(h:Ac r c g){y x:Int}(hb:isB r c g y x=true):blk (setC g y.toNat x.toNat 0)+1=blk g:=by
 obtain⟨_,hy,_,hx,h1⟩:=Px hb;have hs:Ac r c (setC g y.toNat x.toNat 0):=El h hy (by omega) (by omega);have n1:=Np h;have n2:=Np hs;have e:Ay ((setC g y.toNat x.toNat 0).map Ay)=Ay (g.map Ay)-1:=by
  obtain⟨e1,e2⟩:=Cv h hy;unfold setC;rw[List.map_set];have e3:(g.map Ay)[y.toNat]? =some (Ay (g.getD y.toNat [])):=by rw[List.getElem?_map,e1];rfl
  rw[Of e3];have e4:(g.getD y.toNat [])[x.toNat]? =some (Al g y.toNat x.toNat):=BE 0 (by omega);rw[Of e4,h1];omega
 unfold blk;rw[e];omega
theorem A0X{l:List Int}{b:Int}(h:∀x∈l,x≤b):Ay l≤l.length*b:=by
 induction l with
 |nil=>rw[G8];simp
 |cons a l ih=>
  rw[Bs];have h1:=h a List.mem_cons_self;have h2:=ih (fun x hx=>h x (List.mem_cons_of_mem _ hx));have e:((a::l).length:Int)*b=l.length*b+b:=by
   rw[List.length_cons,Int.natCast_add,Int.add_mul];omega
  omega
theorem A3M{r c:Nat}{g:List (List Int)}(h:Ac r c g):blk g≤r*c:=by
 have h1:Ay (g.map Ay)≤(g.map Ay).length*(c:Int):=by
  apply A0X;intro x hx;obtain⟨row,hr,rfl⟩:=List.mem_map.mp hx;obtain⟨hl,hv⟩:=h.2 row hr;have:=A0X (b:=1) (fun v hm=>(hv v hm).2);omega
 rw[List.length_map,h.1] at h1;have h2:=Np h;unfold blk;have e:((r*c:Nat):Int)=(r:Int)*c:=by simp
 omega
theorem FH{r c:Nat}:∀(k:Nat){g:List (List Int)}(y x:Int),Ac r c g→Ac r c (Et r c k g y x)∧blk (Et r c k g y x)≤blk g:=by
 intro k;induction k with
 |zero=>intro g y x h;exact⟨h,Nat.le_refl _⟩
 |succ k ih=>
  intro g y x h;rw[Et]
  split
  ·rename_i hb
   obtain⟨_,hy,_,hx,h1⟩:=Px hb;have s0:Ac r c (setC g y.toNat x.toNat 0):=El h hy (by omega) (by omega);have b0:=Vz h hb;obtain⟨s1,b1⟩:=ih (y-1) x s0;obtain⟨s2,b2⟩:=ih (y+1) x s1;obtain⟨s3,b3⟩:=ih y (x-1) s2;obtain⟨s4,b4⟩:=ih y (x+1) s3;exact⟨s4,by omega⟩
  ·exact⟨h,Nat.le_refl _⟩
theorem Mz{r c:Nat}{g:List (List Int)}{y x:Int}(h:¬isB r c g y x=true)(k:Nat):Et r c k g y x=g:=by
 cases k with
 |zero=>rfl
 |succ k=>rw[Et,if_neg h]
theorem Yt{r c:Nat}{g:List (List Int)}{y x:Int}(h:isB r c g y x=true)(k:Nat):
  Et r c (k+1) g y x=Et r c k (Et r c k (Et r c k (Et r c k (setC g y.toNat x.toNat 0) (y-1) x) (y+1) x) y (x-1)) y (x+1):=by
 rw[Et,if_pos h]
def Gh(r c y:Nat):Nat→List (List Int)×Int→List (List Int)×Int
 |0,s=>s
 |k+1,s=>Gh r c y k (if Al s.1 y (c-(k+1))=1 then(Et r c (r*c+1) s.1 y ((c-(k+1):Nat):Int),s.2+1) else s)
def Eo(r c:Nat):Nat→List (List Int)×Int→List (List Int)×Int
 |0,s=>s
 |k+1,s=>Eo r c k (Gh r c (r-(k+1)) c s)
def Cf(m:List (List Int)):Int:=if Af m=true then(Eo m.length (m.headD []).length m.length (m,0)).2 else-1
theorem Qd{r c y x:Nat}(h:x<c)(s:List (List Int)×Int):
  Gh r c y (c-x) s=Gh r c y (c-(x+1)) (if Al s.1 y x=1 then(Et r c (r*c+1) s.1 y x,s.2+1) else s):=by
 have e:c-x=(c-(x+1))+1:=by omega
 have e2:c-((c-(x+1))+1)=x:=by omega
 rw[e,Gh,e2]
theorem PK{r c y:Nat}(h:y<r)(s:List (List Int)×Int):Eo r c (r-y) s=Eo r c (r-(y+1)) (Gh r c y c s):=by
 have e:r-y=(r-(y+1))+1:=by omega
 have e2:r-((r-(y+1))+1)=y:=by omega
 rw[e,Eo,e2]
def kl(w:List Int)(a b:Nat):Prop:=w.getD b 0<w.getD a 0∨w.getD a 0=w.getD b 0∧a<b
theorem Ot{w:List Int}{a b:Nat}(h:kl w a b):¬kl w b a:=by unfold kl at*;omega
theorem A4c{w:List Int}{a b c:Nat}(h:kl w a b)(h2:kl w b c):kl w a c:=by unfold kl at*;omega
def Te(w:List Int)(c:Nat)(l:List Nat):Prop:=l.Perm (List.range c)∧l.Pairwise (kl w)
theorem Te.eq{w:List Int}{c:Nat}{a b:List Nat}(ha:Te w c a)(hb:Te w c b):a=b:=
 (ha.1.trans hb.1.symm).eq_of_pairwise (fun _ _ _ _ h1 h2=>absurd h2 (Ot h1)) ha.2 hb.2
def klB(w:List Int)(a b:Nat):Bool:=decide (w.getD b 0<w.getD a 0)||decide (w.getD a 0=w.getD b 0)&&decide (a≤b)
def IV(w:List Int)(c:Nat):List Nat:=(List.range c).mergeSort (klB w)
theorem K8(w:List Int)(c:Nat):Te w c (IV w c):=by
 have hp:(IV w c).Perm (List.range c):=List.mergeSort_perm _ _;have hs:(IV w c).Pairwise (fun a b=>klB w a b=true):=by
  apply List.pairwise_mergeSort
  ·intro a b c h1 h2;simp only[klB,Bool.or_eq_true,Bool.and_eq_true,decide_eq_true_eq] at*;omega
  ·intro a b;simp only[klB,Bool.or_eq_true,Bool.and_eq_true,decide_eq_true_eq];omega
 have hn:(IV w c).Nodup:=hp.nodup_iff.mpr List.nodup_range;refine⟨hp,?_⟩;have:=hs.and hn;refine this.imp ?_;intro a b ⟨h1,h2⟩;simp only[klB,Bool.or_eq_true,Bool.and_eq_true,decide_eq_true_eq] at h1;unfold kl;omega
theorem Te.length{w:List Int}{c:Nat}{l:List Nat}(h:Te w c l):l.length=c:=by rw[h.1.length_eq,List.length_range]
theorem Te.nodup{w:List Int}{c:Nat}{l:List Nat}(h:Te w c l):l.Nodup:=h.1.nodup_iff.mpr List.nodup_range
theorem Te.mem{w:List Int}{c:Nat}{l:List Nat}(h:Te w c l)(x:Nat):x∈l↔x<c:=by rw[h.1.mem_iff,List.mem_range]
theorem Te.lt{w:List Int}{c:Nat}{l:List Nat}(h:Te w c l){i x:Nat}(hx:l[i]? =some x):x<c:=(h.mem x).mp (List.mem_of_getElem? hx)
theorem Te.next{w:List Int}{c:Nat}{l:List Nat}(h:Te w c l){i b:Nat}(hb:b<c)(hn:b∉l.take i)(hm:∀x,x<c→x∉l.take i→x=b∨kl w b x):l[i]? =some b:=by
 have hi:i<l.length:=by
  rcases Nat.lt_or_ge i l.length with hi|hi
  ·exact hi
  ·rw[List.take_of_length_le hi] at hn;exact absurd ((h.mem b).mpr hb) hn
 have h2:l[i]∉l.take i:=by
  intro hc;obtain⟨j,hj,e⟩:=List.mem_take_iff_getElem.mp hc;have iO:j<l.length:=by omega
  have hq:kl w l[j] l[i]:=List.pairwise_iff_getElem.mp h.2 j i iO hi (by omega);rw[e] at hq;exact Ot hq hq
 rcases hm l[i] (h.lt (List.getElem?_eq_getElem hi)) h2 with e|hk
 ·rw[List.getElem?_eq_getElem hi,e]
 ·exfalso;obtain⟨j,hj,e⟩:=List.getElem_of_mem ((h.mem b).mpr hb);have hji:i≤j:=by
   rcases Nat.lt_or_ge j i with aH|hge
   ·exact absurd (List.mem_take_iff_getElem.mpr ⟨j,by omega,e⟩) hn
   ·exact hge
  rcases Nat.lt_or_ge i j with aH|hge
  ·have:=List.pairwise_iff_getElem.mp h.2 i j hi hj aH;rw[e] at this;exact Ot this hk
  ·have:i=j:=by omega
   subst this;rw[e] at hk;exact Ot hk hk
def Ji(c:Nat)(s:List Nat):List Int:=(List.range c).map fun x=>if x∈s then 1 else 0
def CO(w:List Int)(n:Nat):List Int:=Ji w.length ((IV w w.length).take n)
def CS(w row:List Int):List Int:=(List.range w.length).map fun x=>w.getD x 0-row.getD x 0
def MA:List Int→List Int→List (List Int)
 |[],_=>[]
 |n::rs,w=>CO w n.toNat::MA rs (CS w (CO w n.toNat))
theorem Wl{c x:Nat}(h:x<c)(s:List Nat):(Ji c s).getD x 0=if x∈s then 1 else 0:=by
 apply AL;unfold Ji;rw[List.getElem?_map,List.getElem?_range h];rfl
theorem OQ(c:Nat)(s:List Nat):(Ji c s).length=c:=by simp[Ji]
theorem A1s(c:Nat):Ji c []=List.replicate c 0:=by
 apply List.ext_getElem?;intro i;unfold Ji;rcases Nat.lt_or_ge i c with h|h
 ·rw[List.getElem?_map,List.getElem?_range h,List.getElem?_replicate,if_pos h];simp
 ·rw[List.getElem?_eq_none (by simpa using h),List.getElem?_eq_none (by simpa using h)]
theorem A1l{c b:Nat}(s:List Nat)(_hb:b<c):(Ji c s).set b 1=Ji c (s++[b]):=by
 apply List.ext_getElem?;intro i;unfold Ji;rcases Nat.lt_or_ge i c with h|h
 ·rw[List.getElem?_map,List.getElem?_range h,List.getElem?_set];by_cases iJ:b=i
  ·rw[if_pos iJ,if_pos (by simpa using _hb)];simp[iJ]
  ·rw[if_neg iJ,List.getElem?_map,List.getElem?_range h];have:¬i=b:=fun e=>iJ e.symm;simp[this]
 ·rw[List.getElem?_eq_none (by simpa using h),List.getElem?_eq_none (by simpa using h)]
theorem UY(w:List Int):CS w (Ji w.length [])=w:=by
 apply List.ext_getElem?;intro i;unfold CS;rcases Nat.lt_or_ge i w.length with h|h
 ·rw[List.getElem?_map,List.getElem?_range h,Option.map_some,Wl h,BE 0 h];simp
 ·rw[List.getElem?_eq_none (by simpa using h),List.getElem?_eq_none h]
theorem V7{w:List Int}{b:Nat}{s:List Nat}(hb:b<w.length)(hn:b∉s):
  (CS w (Ji w.length s)).set b ((CS w (Ji w.length s)).getD b 0-1)=CS w (Ji w.length (s++[b])):=by
 have e:∀(t:List Nat){i:Nat},i<w.length→(CS w (Ji w.length t))[i]? =some (w.getD i 0-if i∈t then 1 else 0):=by
  intro t i hi;unfold CS;rw[List.getElem?_map,List.getElem?_range hi,Option.map_some,Wl hi]
 have el:∀t,(CS w (Ji w.length t)).length=w.length:=by intro t;simp[CS]
 apply List.ext_getElem?;intro i;rcases Nat.lt_or_ge i w.length with h|h
 ·rw[List.getElem?_set,e _ h];by_cases iJ:b=i
  ·subst iJ;rw[if_pos rfl,if_pos (by rw[el];exact hb),AL (e s hb),if_neg hn,e _ h,if_pos (by simp)];simp
  ·rw[if_neg iJ,e _ h];have h3:¬i=b:=fun e=>iJ e.symm;simp[h3]
 ·rw[List.getElem?_eq_none (by rw[List.length_set,el];exact h),List.getElem?_eq_none (by rw[el];exact h)]
theorem Pr{l:List Nat}{i b:Nat}(h:l[i]? =some b):l.take (i+1)=l.take i++[b]:=by
 rw[List.take_add_one,h];rfl
def Jz(P:List Nat)(j i:Nat):List Nat:=P.take j++i::P.drop j
theorem Vf{α:Type}(A:List α)(x y:α)(B:List α):(A++x::B).set A.length y=A++y::B:=by
 induction A with
 |nil=>rfl
 |cons a A ih=>show a::(A++x::B).set A.length y=_;rw[ih];rfl
theorem T3{P:List Nat}{j p:Nat}(h:P[j]? =some p):(P.take j).length=j∧P.take (j+1)=P.take j++[p]∧P.drop j=p::P.drop (j+1):=by
 obtain⟨hj,rfl⟩:=List.getElem?_eq_some_iff.1 h;refine⟨by rw[List.length_take];omega,?_,List.drop_eq_getElem_cons hj⟩;rw[List.take_add_one,h];rfl
theorem Ry{P:List Nat}{j i:Nat}(h:j≤P.length):(Jz P j i).length=P.length+1:=by
 unfold Jz;rw[List.length_append,List.length_cons,List.length_take,List.length_drop];omega
theorem A4X{P:List Nat}{j i:Nat}(h:j≤P.length):(Jz P j i)[j]? =some i:=by
 unfold Jz;have h1:(P.take j).length=j:=by rw[List.length_take];omega
 rw[List.getElem?_append_right (by omega),h1,Nat.sub_self];rfl
theorem A1Y{P:List Nat}{j i p:Nat}(h:P[j]? =some p):(Jz P (j+1) i)[j]? =some p:=by
 unfold Jz;obtain⟨h1,h2,-⟩:=T3 h;rw[List.getElem?_append_left (by rw[h2,List.length_append,h1];simp),List.getElem?_take,if_pos (by omega),h]
theorem A2u{P:List Nat}{j i p:Nat}(h:P[j]? =some p)(R:List Nat):((Jz P (j+1) i++R).set (j+1) p).set j i=Jz P j i++R:=by
 unfold Jz;obtain⟨h1,h2,h3⟩:=T3 h;rw[h2,h3];have e1:P.take j++[p]++i::P.drop (j+1)++R=(P.take j++[p])++i::(P.drop (j+1)++R):=by simp
 have e2:j+1=(P.take j++[p]).length:=by rw[List.length_append,h1];rfl
 rw[e1];have e3:((P.take j++[p])++i::(P.drop (j+1)++R)).set (j+1) p=(P.take j++[p])++p::(P.drop (j+1)++R):=by
  have:=Vf (P.take j++[p]) i p (P.drop (j+1)++R);rw[←e2] at this;exact this
 rw[e3];have e4:(P.take j++[p])++p::(P.drop (j+1)++R)=P.take j++p::(p::(P.drop (j+1)++R)):=by simp
 rw[e4];have e5:(P.take j++p::(p::(P.drop (j+1)++R))).set j i=P.take j++i::(p::(P.drop (j+1)++R)):=by
  have:=Vf (P.take j) p i (p::(P.drop (j+1)++R));rw[h1] at this;exact this
 rw[e5];simp
theorem Yb{w:List Int}{P:List Nat}{i j:Nat}(hp:Te w i P)(h1:∀q∈P.drop j,w.getD q 0<w.getD i 0)(h2:j=0∨∃p,P[j-1]? =some p∧w.getD i 0≤w.getD p 0):Te w (i+1) (Jz P j i):=by
 refine⟨?_,?_⟩
 ·have e:(Jz P j i).Perm (i::P):=by
   unfold Jz;refine List.perm_middle.trans ?_;rw[List.take_append_drop]
  refine e.trans ?_;rw[List.range_succ];refine(List.Perm.cons i hp.1).trans ?_;exact(List.perm_append_singleton i (List.range i)).symm
 ·have hd:=hp.2;rw[←List.take_append_drop j P,List.pairwise_append] at hd;obtain⟨d1,d2,d3⟩:=hd;unfold Jz;rw[List.pairwise_append];refine⟨d1,?_,?_⟩
  ·rw[List.pairwise_cons];exact⟨fun q hq=>.inl (h1 q hq),d2⟩
  ·intro a ha b hb;rw[List.mem_cons] at hb;rcases hb with rfl|hb
   ·obtain⟨t,ht,e⟩:=List.mem_take_iff_getElem.mp ha;rcases h2 with rfl|⟨p,hp1,jN⟩
    ·omega
    ·have pV:a<b:=(hp.mem a).mp (List.mem_of_mem_take ha);obtain⟨gC,hpe⟩:=List.getElem?_eq_some_iff.1 hp1;rcases Nat.lt_or_ge t (j-1) with aH|hge
     ·have hk:=List.pairwise_iff_getElem.mp hp.2 t (j-1) (by omega) gC aH;rw[e,hpe] at hk;unfold kl at*;omega
     ·have:t=j-1:=by omega
      subst this;rw[hpe] at e;subst e;unfold kl;omega
   ·exact d3 a ha b hb
def GQ(i c:Nat):List Nat:=(List.range (c-i)).map (· +i)
theorem SF{i c:Nat}(h:i<c):GQ i c=i::GQ (i+1) c:=by
 unfold GQ;have e:c-i=(c-(i+1))+1:=by omega
 rw[e,List.range_succ_eq_map,List.map_cons,List.map_map];simp only[Nat.zero_add,List.cons.injEq,true_and];apply List.map_congr_left;intro a _;show a+1+i=a+(i+1);omega
theorem A2C(i c:Nat):(GQ i c).length=c-i:=by simp[GQ]
theorem ZL(c:Nat):GQ c c=[]:=by simp[GQ]
theorem A0L(c:Nat):GQ 0 c=List.range c:=by simp[GQ]
def I5:List Int→List Int→Nat→List Int
 |_,w,0=>w
 |[],w,_+1=>w
 |n::rs,w,k+1=>I5 rs (CS w (CO w n.toNat)) k
theorem Pp:∀{rows:List Int}{w:List Int}{k:Nat}{n:Int},rows[k]? =some n→I5 rows w (k+1)=CS (I5 rows w k) (CO (I5 rows w k) n.toNat)
 |[],_,_,_,h=>by simp at h
 |a::rs,w,0,n,h=>by
  have:a=n:=by simpa using h
  subst this;cases rs<;>rfl
 |a::rs,w,k+1,n,h=>by
  have h':rs[k]? =some n:=by simpa using h
  exact Pp (rows:=rs) (w:=CS w (CO w a.toNat)) h'
theorem ZZ:∀{rows:List Int}{w:List Int}{k:Nat}{n:Int},rows[k]? =some n→(MA rows w)[k]? =some (CO (I5 rows w k) n.toNat)
 |[],_,_,_,h=>by simp at h
 |a::rs,w,0,n,h=>by
  have:a=n:=by simpa using h
  subst this;rfl
 |a::rs,w,k+1,n,h=>by
  have h':rs[k]? =some n:=by simpa using h
  show(MA rs (CS w (CO w a.toNat)))[k]? =_;rw[ZZ h'];rfl
theorem Oz:∀(rows w:List Int),(MA rows w).length=rows.length
 |[],_=>rfl
 |a::rs,w=>by show(MA rs _).length+1=rs.length+1;rw[Oz rs]
theorem JX(w row:List Int):(CS w row).length=w.length:=by simp[CS]
theorem Rf:∀(rows w:List Int)(k:Nat),(I5 rows w k).length=w.length
 |_,_,0=>by unfold I5;rfl
 |[],_,_+1=>rfl
 |a::rs,w,k+1=>by show(I5 rs _ k).length=_;rw[Rf rs,JX]
theorem RK{w row:List Int}{a b:Int}(h:∀x∈w,a≤x∧x≤b)(hr:∀i,0≤row.getD i 0∧row.getD i 0≤1):∀x∈CS w row,a-1≤x∧x≤b:=by
 intro x hx;unfold CS at hx;rw[List.mem_map] at hx;obtain⟨i,hi,rfl⟩:=hx;rw[List.mem_range] at hi;have h1:=h (w.getD i 0) (List.mem_of_getElem? (BE 0 hi));have h2:=hr i;omega
theorem Ww(c:Nat)(s:List Nat)(i:Nat):0≤(Ji c s).getD i 0∧(Ji c s).getD i 0≤1:=by
 rcases Nat.lt_or_ge i c with h|h
 ·rw[Wl h];split<;>omega
 ·rw[List.getD_eq_getElem?_getD,List.getElem?_eq_none (by rw[OQ];exact h)];simp
theorem Vj:∀(rows w:List Int)(k:Nat){a b:Int},(∀x∈w,a≤x∧x≤b)→∀x∈I5 rows w k,a-k≤x∧x≤b
 |_,_,0,_,_,h=>by unfold I5;intro x hx;have:=h x hx;omega
 |[],_,k+1,_,_,h=>by show ∀x∈_,_;intro x hx;have:=h x hx;omega
 |n::rs,w,k+1,a,b,h=>by
  intro x hx;have:=Vj rs (CS w (CO w n.toNat)) k (RK h (fun i=>Ww _ _ i)) x hx;omega
def Fz(d:List (List Int)→Int):List (List (List Int))→List (List Int)→List (List Int)
 |[],b=>b
 |m::l,b=>Fz d l (if d m<d b then m else b)
def Z8(d:List (List Int)→Int)(l:List (List (List Int))):Option (List (List Int)):=
 match l with
 |[]=>none
 |a::t=>some (Fz d t a)
theorem Wy(d:List (List Int)→Int)(a:List (List Int))(t:List (List (List Int))):Fz d (a::t) a=Fz d t a:=by
 rw[Fz,if_neg (by omega)]
theorem LC{d:List (List Int)→Int}{l:List (List (List Int))}{k:Nat}{m b:List (List Int)}(h:l[k]? =some m):Fz d (l.drop k) b=Fz d (l.drop (k+1)) (if d m<d b then m else b):=by
 have hk:k<l.length:=by
  rcases Nat.lt_or_ge k l.length with h1|h1
  ·exact h1
  ·rw[List.getElem?_eq_none h1] at h;exact absurd h (by simp)
 rw[List.drop_eq_getElem_cons hk,Fz];rw[List.getElem?_eq_getElem hk] at h;rw[Option.some.inj h]

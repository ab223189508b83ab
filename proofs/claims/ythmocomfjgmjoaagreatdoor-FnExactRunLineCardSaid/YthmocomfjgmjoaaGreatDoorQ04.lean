/- Base. -/
import Derived.Test.YthmocomfjgmjoaaGreatDoorQ03
namespace Go.Proofs.YthmocomfjgmjoaaGreatDoor
variable {L:List I}{N:Nat}{W:List Sw}{c:Nat}{cells cols:U}{h:I}{i0 j j0 key:Nat}{l:U}{m:I}{out:U}{p q:List Sw}{r:Nat}{rows:U}{v w:Nat}{xs:U}{y:Nat}{ys:U}{α β:Type}
def Sw.code(s:Sw):Nat:=s.y1*512+s.y2*64+s.x1*8+s.x2
def Mv:List Sw→List Sw→Prop
 |s::p,t::q=>Sw.code s<Sw.code t∨(s=t∧Mv p q)
 |_,_=>False
def Zp(p q:List Sw):Prop:=p.length<q.length∨(p.length=q.length∧Mv p q)
def sle(p q:List Sw):Prop:=p=q∨Zp p q
theorem P9:∀p,¬Mv p p
 |[],h=>h
 |s::p,h=>h.elim (fun h=>by omega) fun h=>P9 p h.2
theorem Q1:∀{p q r},Mv p q→Mv q r→Mv p r
 |[],_,_,h,_=>h.elim
 |_::_,[],_,h,_=>h.elim
 |_::_,_::_,[],_,h=>h.elim
 |s::p,t::q,u::r,h1,h2=>by
  rcases h1 with h1|⟨rfl,h1⟩
  ·rcases h2 with h2|⟨rfl,-⟩
   ·exact .inl J
   ·exact .inl h1
  ·rcases h2 with h2|⟨rfl,h2⟩
   ·exact .inl h2
   ·exact .inr ⟨rfl,Q1 h1 h2⟩
theorem YM(p:List Sw):¬Zp p p:=fun h=>h.elim (fun h=>by omega) fun h=>P9 p h.2
theorem PC{r:List Sw}(h1:Zp p q)(h2:Zp q r):Zp p r:=by
 rcases h1 with h1|⟨e1,h1⟩<;>rcases h2 with h2|⟨e2,h2⟩
 ·exact .inl J
 ·exact .inl J
 ·exact .inl J
 ·exact .inr ⟨J,Q1 h1 h2⟩
theorem A0U{r:List Sw}(h1:sle p q)(h2:sle q r):sle p r:=by
 rcases h1 with rfl|h1
 ·exact h2
 ·rcases h2 with rfl|h2
  ·exact .inr h1
  ·exact .inr (PC h1 h2)
theorem Wa(h1:sle p q)(h2:sle q p):p=q:=by
 rcases h1 with h1|h1
 ·exact h1
 ·rcases h2 with h2|h2
  ·exact h2.symm
  ·exact(YM p (PC h1 h2)).elim
theorem SS:∀{p q:List Sw}(s t:Sw),Mv p q→Mv (p++[s]) (q++[t])
 |[],_,_,_,h=>h.elim
 |_::_,[],_,_,h=>h.elim
 |_::_,_::_,s,t,h=>h.elim (fun h=>.inl h) fun h=>.inr ⟨h.1,SS s t h.2⟩
theorem Rz(s t:Sw)(h:Zp p q):Zp (p++[s]) (q++[t]):=by
 rcases h with h|⟨e,h⟩
 ·exact .inl (by simp;omega)
 ·exact .inr ⟨by simp[e],SS s t h⟩
theorem YT(p:List Sw)(s t:Sw)(h:Sw.code s<Sw.code t):Mv (p++[s]) (p++[t]):=by
 induction p with
 |nil=>
  rw[List.nil_append,List.nil_append,Mv];exact Or.inl h
 |cons a p ih=>
  rw[List.cons_append,List.cons_append,Mv];exact Or.inr ⟨rfl,ih⟩
theorem A36(p:List Sw){s t:Sw}(h:Sw.code s<Sw.code t):Zp (p++[s]) (p++[t]):=.inr ⟨Jj,YT p s t h⟩
theorem A2W(s:Sw)(h:sle p q):sle (p++[s]) (q++[s]):=by
 rcases h with rfl|h
 ·exact .inl rfl
 ·exact .inr (Rz s s h)
theorem A3E(p:List Sw)(s:Sw):Zp [] (p++[s]):=.inl Jj
def CT(r c:Nat):I→List Sw→I→Prop
 |g,[],h=>g=h
 |g,s::p,h=>CL r c g s∧CT r c (Ba g s) p h
theorem Dw:∀{p:List Sw}{g h:I}{s:Sw},CT r c g (p++[s]) h↔∃x,CT r c g p x∧CL r c x s∧Ba x s=h
 |[],g,h,s=>by
  simp only[List.nil_append,CT];exact⟨fun⟨a,b⟩=>⟨g,rfl,a,b⟩,fun⟨x,e,a,b⟩=>by subst e;exact⟨a,b⟩⟩
 |t::p,g,h,s=>by
  simp only[List.cons_append,CT];constructor
  ·rintro⟨a,b⟩;obtain⟨x,h1,h2⟩:=Dw.1 b;exact⟨x,⟨a,h1⟩,h2⟩
  ·rintro⟨x,⟨a,h1⟩,h2⟩;exact⟨a,Dw.2 ⟨x,h1,h2⟩⟩
theorem CT.shape:∀{p:List Sw}{g h:I},CT r c g p h→Ax r c g→Ax r c h
 |[],_,_,h,hs=>by cases h;exact hs
 |_::_,_,_,h,hs=>h.2.shape (Cu hs h.1)
theorem CT.sums:∀{p:List Sw}{g h:I},CT r c g p h→Da xs ys r c g→Da xs ys r c h
 |[],_,_,h,hs=>by cases h;exact hs
 |_::_,_,_,h,hs=>h.2.sums (DO hs h.1)
theorem CT.rev:∀{p:List Sw}{g h:I},CT r c g p h→Ax r c g→CT r c h p.reverse g
 |[],_,_,h,_=>h.symm
 |s::p,g,h,hp,hs=>by
  have h1:=hp.2.rev (Cu hs hp.1);rw[List.reverse_cons];exact Dw.2 ⟨_,h1,IC hs hp.1,Gn hs hp.1⟩
theorem Ix.path{g:I}(hj:Ix r c g h):∃p,CT r c g p h:=by
 induction hj with
 |refl=>exact⟨[],rfl⟩
 |@step b s _ hs ih=>
  obtain⟨p,hp⟩:=ih;exact⟨p++[s],Dw.2 ⟨_,hp,hs,rfl⟩⟩
def V3(r c:Nat):List Sw:=(List.range r).flatMap fun a=>(List.range r).flatMap fun b=>if a<b then(List.range c).flatMap fun x=>(List.range c).flatMap fun y=>if x<y then[(a,b,x,y)]else[]else[]
def Bj(r c:Nat)(g:I):List Sw:=(V3 r c).filter fun s=>decide (CL r c g s)
theorem A10{s:Sw}:s∈V3 r c↔s.y1<s.y2∧s.y2<r∧s.x1<s.x2∧s.x2<c:=by
 obtain⟨a,b,x,y⟩:=s;show _↔a<b∧b<r∧x<y∧y<c;unfold V3;simp only[List.mem_flatMap,AG];constructor
 ·rintro⟨a',ha,b',hb,h⟩
  split at h
  ·rename_i gZ
   simp only[List.mem_flatMap,AG]at h;obtain⟨x',hx,y',hy,h⟩:=h
   split at h
   ·rename_i cK
    simp only[List.mem_singleton,Prod.mk.injEq]at h;obtain⟨rfl,rfl,rfl,rfl⟩:=h;exact⟨gZ,hb,cK,hy⟩
   ·cases h
  ·cases h
 ·rintro⟨h1,h2,h3,h4⟩;refine⟨a,J,b,h2,?_⟩;rw[if_pos h1];simp only[List.mem_flatMap,AG];refine⟨x,J,y,h4,?_⟩;rw[if_pos h3];simp
theorem DD{g:I}{s:Sw}:s∈Bj r c g↔CL r c g s:=by
 unfold Bj;rw[List.mem_filter,A10,Ah];exact⟨fun h=>h.2,fun h=>⟨⟨h.1,h.2.1,h.2.2.1,h.2.2.2.1⟩,h⟩⟩
theorem Vh:∀r,r<6→∀c,c<6→(V3 r c).Pairwise (fun s t=>Sw.code s<Sw.code t):=by decide+kernel
theorem G9(hr:r≤5)(hc:c≤5)(g:I):(Bj r c g).Pairwise (fun s t=>Sw.code s<Sw.code t):=(Vh r J c J).filter _
abbrev E3:=I×List Sw
variable {acc:List E3}{e0:E3}
def Qd(e:E3)(acc:List E3)(s:Sw):List E3:=if acc.any (fun x=>decide (x.1=Ba e.1 s))then acc else acc++[(Ba e.1 s,e.2++[s])]
structure K6(r c:Nat)(m:I)(j:Nat)(acc:List E3):Prop where
 zero:acc[0]? =some (m,[])
 sorted:acc.Pairwise (fun a b=>Zp a.2 b.2)
 path:∀e∈acc,CT r c m e.2 e.1
 nodup:acc.Pairwise (fun a b=>a.1≠b.1)
 done:∀i(e:E3),i<j→acc[i]? =some e→∀s,CL r c e.1 s→∃e'∈acc,e'.1=Ba e.1 s∧sle e'.2 (e.2++[s])
 next:∀e:E3,acc[j]? =some e→∀x∈acc,∀s,Zp x.2 (e.2++[s])
 len:∀i(e:E3),acc[i]? =some e→e.2.length≤i
theorem RG(r c:Nat)(m:I):K6 r c m 0 [(m,[])]:=
 ⟨rfl,List.pairwise_singleton _ _,by simp[CT],List.pairwise_singleton _ _,fun i e h=>by omega,fun e he x hx s=>by simp at hx;subst hx;exact A3E _ s,fun i e h=>by
   cases i with
   |zero=>simp at h;subst h;simp
   |succ i=>simp at h⟩
structure LF(r c:Nat)(m:I)(j:Nat)(e0:E3)(ss1:List Sw)(acc:List E3):Prop where
 zero:acc[0]? =some (m,[])
 at0:acc[j]? =some e0
 sorted:acc.Pairwise (fun a b=>Zp a.2 b.2)
 path:∀e∈acc,CT r c m e.2 e.1
 nodup:acc.Pairwise (fun a b=>a.1≠b.1)
 done:∀i(e:E3),i<j→acc[i]? =some e→∀s,CL r c e.1 s→∃e'∈acc,e'.1=Ba e.1 s∧sle e'.2 (e.2++[s])
 doneJ:∀s∈ss1,∃e'∈acc,e'.1=Ba e0.1 s∧sle e'.2 (e0.2++[s])
 below:∀x∈acc,(∀s,Zp x.2 (e0.2++[s]))∨∃s1∈ss1,x.2=e0.2++[s1]
 len:∀i(e:E3),acc[i]? =some e→e.2.length≤i
theorem K6.mid(h:K6 r c m j acc)(he:acc[j]? =some e0):LF r c m j e0 [] acc:=
 ⟨h.zero,he,h.sorted,h.path,h.nodup,h.done,(fun s hs=>by cases hs),fun x hx=>.inl (h.next e0 he x hx),h.len⟩
theorem LF.step{r c:Nat}{m:I}{j:Nat}{e0:E3}{ss1:List Sw}{acc:List E3}(h:LF r c m j e0 ss1 acc){s:Sw}(hs:CL r c e0.1 s)(aF:∀s1∈ss1,Sw.code s1<Sw.code s):LF r c m j e0 (ss1++[s]) (Qd e0 acc s):=by
 have hj:=(A5.1 h.at0).1;have aA:∀x∈acc,Zp x.2 (e0.2++[s]):=fun x hx=>by
  rcases h.below x hx with h1|⟨s1,h1,h2⟩
  ·exact h1 s
  ·rw[h2];exact A36 _ (aF s1 h1)
 unfold Qd;cases hany:acc.any (fun x=>decide (x.1=Ba e0.1 s))
 ·rw[if_neg Jj];have bH:∀x∈acc,x.1≠Ba e0.1 s:=fun x hx e=>by
   rw[Bool.eq_false_iff]at hany;exact hany (List.any_eq_true.2 ⟨x,hx,by simpa using e⟩)
  refine⟨?_,?_,?_,?_,?_,?_,?_,?_,?_⟩
  ·rw[Aq J];exact h.zero
  ·rw[Aq hj];exact h.at0
  ·rw[List.pairwise_append];exact⟨h.sorted,List.pairwise_singleton _ _,fun a ha b hb=>by simp at hb;subst hb;exact aA a ha⟩
  ·intro e he;rcases List.mem_append.1 he with he|he
   ·exact h.path e he
   ·rw[List.mem_singleton]at he;subst he;exact Dw.2 ⟨e0.1,h.path e0 (A4 h.at0),hs,rfl⟩
  ·rw[List.pairwise_append];exact⟨h.nodup,List.pairwise_singleton _ _,fun a ha b hb=>by simp at hb;subst hb;exact bH a ha⟩
  ·intro i e hi he t ht;rw[Aq J]at he;obtain⟨e',h1,h2⟩:=h.done i e hi he t ht;exact⟨e',List.mem_append_left _ h1,h2⟩
  ·intro t ht;rcases List.mem_append.1 ht with ht|ht
   ·obtain⟨e',h1,h2⟩:=h.doneJ t ht;exact⟨e',List.mem_append_left _ h1,h2⟩
   ·rw[List.mem_singleton]at ht;subst ht;exact⟨_,List.mem_append_right _ (List.mem_singleton.2 rfl),rfl,.inl rfl⟩
  ·intro x hx;rcases List.mem_append.1 hx with hx|hx
   ·exact(h.below x hx).imp id fun⟨s1,h1,h2⟩=>⟨s1,List.mem_append_left _ h1,h2⟩
   ·rw[List.mem_singleton]at hx;subst hx;exact .inr ⟨s,List.mem_append_right _ (List.mem_singleton.2 rfl),rfl⟩
  ·intro i e he;by_cases hi:i<acc.length
   ·rw[Aq hi]at he;exact h.len i e he
   ·have pO:=(A5.1 he).1;rw[Ad,List.length_singleton]at pO;have iB:i=acc.length:=J;subst iB;rw[List.getElem?_append_right (A2 _),Nat.sub_self]at he;simp at he;subst he;have:=h.len j e0 h.at0;simp;omega
 ·rw[if_pos rfl];obtain⟨x,hx,xv⟩:=List.any_eq_true.1 hany;refine⟨h.zero,h.at0,h.sorted,h.path,h.nodup,h.done,fun t ht=>?_,fun y hy=>(h.below y hy).imp id fun⟨s1,h1,h2⟩=>⟨s1,List.mem_append_left _ h1,h2⟩,h.len⟩;rcases List.mem_append.1 ht with ht|ht
  ·exact h.doneJ t ht
  ·rw[List.mem_singleton]at ht;subst ht;exact⟨x,hx,by simpa using xv,.inr (aA x hx)⟩
theorem LF.last(h:LF r c m j e0 (Bj r c e0.1) acc):K6 r c m (j+1) acc:=by
 refine⟨h.zero,h.sorted,h.path,h.nodup,fun i e hi he s hs=>?_,fun e he x hx s=>?_,h.len⟩
 ·by_cases hij:i=j
  ·subst hij;rw[h.at0]at he;obtain rfl:=Option.some.inj he;exact h.doneJ s (DD.2 hs)
  ·exact h.done i e J he s hs
 ·have aF:Zp e0.2 e.2:=by
   have hs:=h.sorted;rw[List.pairwise_iff_getElem]at hs;obtain⟨h1,e1⟩:=A5.1 h.at0;obtain⟨h2,e2⟩:=A5.1 he;have:=hs j (j+1) h1 h2 J;rwa[e1,e2]at this
  rcases h.below x hx with h1|⟨s1,-,h2⟩
  ·exact PC (h1 s) (Rz s s aF)
  ·rw[h2];exact Rz s1 s aF
theorem K6.min(h:K6 r c m j acc)(hj:acc.length≤j):∀(n:Nat)(q:List Sw)(y:I),q.length=n→CT r c m q y→∃e∈acc,e.1=y∧sle e.2 q:=by
 intro n;induction n with
 |zero=>
  intro q y hq hp;have:q=[]:=List.eq_nil_of_length_eq_zero hq;subst this;exact⟨(m,[]),A4 h.zero,hp,.inl rfl⟩
 |succ n ih=>
  intro q y hq hp;have aK:q≠[]:=by intro e;rw[e]at hq;simp at hq
  have e:=List.dropLast_concat_getLast aK;rw[←e]at hp;obtain⟨x,h1,h2,h3⟩:=Dw.1 hp;obtain⟨e1,m1,m2,m3⟩:=ih q.dropLast x (by rw[List.length_dropLast];omega) h1;obtain⟨i,hi⟩:=List.getElem?_of_mem m1;have pO:=(A5.1 hi).1;rw[←m2]at h2 h3;obtain⟨e',k1,k2,k3⟩:=h.done i e1 J hi _ h2;refine⟨e',k1,k2.trans h3,?_⟩;rw[←e];exact A0U k3 (A2W _ m3)
def Ki(r c:Nat)(g t:I)(W:List Sw):Prop:=CT r c g W t∧∀q,CT r c g q t→sle W q
theorem Ki.eq{g t:I}{V:List Sw}(h1:Ki r c g t W)(h2:Ki r c g t V):W=V:=Wa (h1.2 V h2.1) (h2.2 W h1.1)
theorem A3D(h:sle p q):p.length≤q.length:=by
 rcases h with rfl|h|⟨h,-⟩
 ·exact A2 _
 ·omega
 ·omega
theorem K6.least(h:K6 r c m j acc)(hj:acc.length≤j){e:E3}(he:e∈acc):Ki r c m e.1 e.2:=by
 refine⟨h.path e he,fun q hq=>?_⟩;obtain⟨e',h1,h2,h3⟩:=h.min hj _ q e.1 rfl hq;have:e'=e:=by
  have hn:=h.nodup;rw[List.pairwise_iff_getElem]at hn;obtain⟨i,hi,rfl⟩:=List.getElem_of_mem he;obtain⟨k,hk,rfl⟩:=List.getElem_of_mem h1;by_cases e:i=k
  ·subst e;rfl
  ·rcases Nat.lt_or_gt_of_ne e with h|h
   ·exact absurd h2.symm (hn i k hi hk h)
   ·exact absurd h2 (hn k i hk hi h)
 rw[←this];exact h3
def V4(r c:Nat)(t g:I)(n:Nat):Prop:=(∃p,CT r c t p g∧p.length=n)∧∀q,CT r c t q g→n≤q.length
theorem V4.eq{t g:I}{n k:Nat}(h1:V4 r c t g n)(h2:V4 r c t g k):n=k:=by
 obtain⟨p,hp,rfl⟩:=h1.1;obtain⟨q,hq,rfl⟩:=h2.1;have:=h1.2 q hq;have:=h2.2 p hp;omega
theorem Ki.far{t g:I}(h:Ki r c t g W):V4 r c t g W.length:=⟨⟨W,h.1,rfl⟩,fun q hq=>A3D (h.2 q hq)⟩
theorem A2s{t g:I}{n k:Nat}{s:Sw}(hg:Ax r c g)(h1:V4 r c t g n)(hs:CL r c g s)(h2:V4 r c t (Ba g s) k):n≤k+1∧k≤n+1:=by
 obtain⟨p,hp,rfl⟩:=h1.1;obtain⟨q,hq,rfl⟩:=h2.1;have a:=h2.2 (p++[s]) (Dw.2 ⟨g,hp,hs,rfl⟩);have b:=h1.2 (q++[s]) (Dw.2 ⟨_,hq,IC hg hs,Gn hg hs⟩);simp at a b;omega
theorem A2K{t g:I}(h:V4 r c t g 0):t=g:=by
 obtain⟨p,hp,hl⟩:=h.1;have:p=[]:=List.eq_nil_of_length_eq_zero hl;subst this;exact hp
theorem A26(r c:Nat)(t:I):V4 r c t t 0:=⟨⟨[],rfl,rfl⟩,fun _ _=>A7 _⟩
theorem A31{t g:I}{n:Nat}(ht:Ax r c t)(h:V4 r c t g (n+1)):∃s,CL r c g s∧∃p,CT r c t p (Ba g s)∧p.length=n:=by
 obtain⟨p,hp,hl⟩:=h.1;have aK:p≠[]:=by intro e;rw[e]at hl;simp at hl
 have e:=List.dropLast_concat_getLast aK;rw[←e]at hp;obtain⟨x,h1,h2,h3⟩:=Dw.1 hp;have hx:=h1.shape ht;refine⟨p.getLast aK,?_,p.dropLast,?_,by rw[List.length_dropLast];omega⟩
 ·rw[←h3];exact IC hx h2
 ·rw[←h3,Gn hx h2];exact h1
theorem A2J(hr:r≤5)(hc:c≤5){g:I}{s t:Sw}(hs:CL r c g s)(ht:CL r c g t)(h:Sw.code s=Sw.code t):s=t:=by
 obtain⟨a,b,x,y⟩:=s;obtain⟨a',b',x',y'⟩:=t;obtain⟨h1,h2,h3,h4,-⟩:=hs;obtain⟨k1,k2,k3,k4,-⟩:=ht;unfold Sw.code at h;simp only[Sw.y1,Sw.y2,Sw.x1,Sw.x2]at*;have e1:a=a':=J;have e2:b=b':=J;have e3:x=x':=J;have e4:y=y':=J;rw[e1,e2,e3,e4]
inductive MA(r c:Nat)(t:I):I→List Sw→Prop
 |done:MA r c t t []
 |step {g:I} {n:Nat} {s:Sw} {p:List Sw}:V4 r c t g (n+1)→CL r c g s→V4 r c t (Ba g s) n→(∀s',CL r c g s'→Sw.code s'<Sw.code s→∀k,V4 r c t (Ba g s') k→n+1≤k)→MA r c t (Ba g s) p→MA r c t g (s::p)
theorem MA.far{t g:I}(h:MA r c t g p):V4 r c t g p.length:=by
 induction h with
 |done=>exact A26 r c t
 |step h1 _ h2 _ _ ih=>
  have:=h2.eq ih;rw[An,←this];exact h1
theorem MA.path{t g:I}(h:MA r c t g p):CT r c g p t:=by
 induction h with
 |done=>exact rfl
 |step _ hs _ _ _ ih=>exact⟨hs,ih⟩
theorem MA.least(hr:r≤5)(hc:c≤5){t g:I}(hg:Ax r c g)(_:Ax r c t)(wt:∀h,Ax r c h→(∃q,CT r c h q t)→∃k,V4 r c t h k)(h:MA r c t g p):Ki r c g t p:=by
 refine⟨h.path,?_⟩;induction h with
 |done=>
  intro q hq;cases q with
  |nil=>exact .inl rfl
  |cons s q=>exact .inr (.inl Jj)
 |@step g n s p h1 hs h2 hmin hd ih=>
  intro q hq;have hl:n+1≤q.length:=by
   have:=h1.2 q.reverse (hq.rev hg);simpa using this
  have q9:(s::p).length=n+1:=by
   have:=(MA.step h1 hs h2 hmin hd).far.eq h1;exact this
  by_cases cf:q.length=n+1
  ·cases q with
   |nil=>simp at cf
   |cons s' q=>
    have ct:q.length=n:=by simpa using cf
    have lq:=Cu hg hq.1;obtain⟨k,hk⟩:=wt _ lq ⟨q,hq.2⟩;have pP:k≤n:=by
     have:=hk.2 q.reverse (hq.2.rev lq);simp at this;omega
    have wJ:¬Sw.code s'<Sw.code s:=fun aF=>by
     have:=hmin s' hq.1 aF k hk;omega
    by_cases he:Sw.code s'=Sw.code s
    ·have es:=A2J hr hc hq.1 hs he;subst es;rcases ih (Cu hg hs) q hq.2 with e|e|⟨e1,e2⟩
     ·rw[e];exact .inl rfl
     ·exact .inr (.inl (by simpa using e))
     ·exact .inr (.inr ⟨by simp[e1],.inr ⟨rfl,e2⟩⟩)
    ·exact .inr (.inr ⟨by rw[q9,cf],.inl J⟩)
  ·exact .inr (.inl (by rw[q9];omega))
theorem K6.qbv(hok:AT xs ys=true)(hm:Da xs ys xs.length ys.length m)(h:K6 xs.length ys.length m j acc):acc.length≤(BB xs ys).length:=
 MT (fun e:E3=>e.1) acc (BB xs ys) h.nodup fun e he=>(Dy hok e.1).2 ((h.path e he).sums hm)
theorem LF.qbv{ss:List Sw}(hok:AT xs ys=true)(hm:Da xs ys xs.length ys.length m)(h:LF xs.length ys.length m j e0 ss acc):acc.length≤(BB xs ys).length:=
 MT (fun e:E3=>e.1) acc (BB xs ys) h.nodup fun e he=>(Dy hok e.1).2 ((h.path e he).sums hm)
theorem K6.found{g:I}(h:K6 r c m j acc)(hj:acc.length≤j)(hm:Da xs ys r c m)(hg:Da xs ys r c g):∃e∈acc,e.1=g:=by
 obtain⟨p,hp⟩:=(Rg hm hg).path;obtain⟨e,h1,h2,-⟩:=h.min hj _ p g rfl hp;exact⟨e,h1,h2⟩
def TC(r c:Nat)(m:I)(a b x y:Nat):List Sw:=((List.range y).map fun y'=>((a,b,x,y'):Sw)).filter fun s=>decide (CL r c m s)
def ZE(r c:Nat)(m:I)(a b x:Nat):List Sw:=(List.range x).flatMap fun x'=>TC r c m a b x' c
def Yz(r c:Nat)(m:I)(a b:Nat):List Sw:=(List.range b).flatMap fun b'=>ZE r c m a b' c
def YZ(r c:Nat)(m:I)(a:Nat):List Sw:=(List.range a).flatMap fun a'=>Yz r c m a' r
theorem OP{a b x:Nat}:TC r c m a b x (y+1)=TC r c m a b x y++(if CL r c m (a,b,x,y)then[(a,b,x,y)]else[]):=by
 unfold TC;rw[List.range_succ,List.map_append,List.filter_append];by_cases h:CL r c m (a,b,x,y)<;>simp[h]
theorem XG{a b x:Nat}:TC r c m a b x (x+1)=[]:=by
 unfold TC;rw[List.filter_eq_nil_iff];intro s hs;obtain⟨y,hy,rfl⟩:=AE.1 hs;rw[AG]at hy;rw[Ah];intro h;have h3:x<y:=h.2.2.1;omega
theorem Yd{a b:Nat}:ZE r c m a b 0=[]:=rfl
theorem XF{a b x:Nat}:ZE r c m a b (x+1)=ZE r c m a b x++TC r c m a b x c:=by
 unfold ZE;rw[List.range_succ,List.flatMap_append];simp
theorem A0y{a b:Nat}(h:b≤a)(x:Nat):ZE r c m a b x=[]:=by
 unfold ZE;rw[List.flatMap_eq_nil_iff];intro x' _;unfold TC;rw[List.filter_eq_nil_iff];intro s hs;obtain⟨y,hy,rfl⟩:=AE.1 hs;rw[Ah];intro hk;have h1:a<b:=hk.1;omega
theorem Xp{a:Nat}:Yz r c m a (a+1)=[]:=by
 unfold Yz;rw[List.flatMap_eq_nil_iff];intro b hb;rw[AG]at hb;exact A0y J _
theorem WT{a b:Nat}:Yz r c m a (b+1)=Yz r c m a b++ZE r c m a b c:=by
 unfold Yz;rw[List.range_succ,List.flatMap_append];simp
theorem Xy{a:Nat}:YZ r c m (a+1)=YZ r c m a++Yz r c m a r:=by
 unfold YZ;rw[List.range_succ,List.flatMap_append];simp
theorem I9(p:β→Bool)(f:α→List β):∀l:List α,(l.flatMap f).filter p=l.flatMap fun x=>(f x).filter p
 |[]=>rfl
 |a::l=>by rw[List.flatMap_cons,List.flatMap_cons,List.filter_append,I9 p f l]
theorem Ld{f g:α→List β}:∀{l:List α},(∀x∈l,f x=g x)→l.flatMap f=l.flatMap g
 |[],_=>rfl
 |a::l,h=>by rw[List.flatMap_cons,List.flatMap_cons,h a Jj,Ld fun x hx=>h x (by simp[hx])]
theorem A0w(r c:Nat)(m:I):YZ r c m r=Bj r c m:=by
 unfold Bj V3 YZ;rw[I9];refine Ld fun a _=>?_;unfold Yz;rw[I9];refine Ld fun b _=>?_;by_cases gZ:a<b
 ·rw[if_pos gZ,I9];unfold ZE;refine Ld fun x _=>?_;unfold TC;rw[I9];induction List.range c with
  |nil=>rfl
  |cons y l ih=>
   rw[List.map_cons,List.flatMap_cons,List.filter_cons,ih];by_cases cK:x<y
   ·rw[if_pos cK];by_cases h:CL r c m (a,b,x,y)<;>simp[h]
   ·rw[if_neg cK];have h:¬CL r c m (a,b,x,y):=fun h=>cK h.2.2.1;simp[h]
 ·rw[if_neg gZ,A0y J];rfl
theorem Vu{R C:Nat→Int}{l u x:Nat→Nat→Int}(hR:∀i,i<r→rs c (fun j=>x i j)=R i)(hC:∀j,j<c→rs r (fun i=>x i j)=C j)(A B:Nat→Bool):
  BD r c R C l u A B=rs r (fun i=>rs c (fun j=>gc (A i) (B j) (l i j) (u i j)+(if A i then x i j else 0)-(if B j then x i j else 0))):=by
 unfold BD;have e1:rs r (fun i=>if A i then R i else 0)=rs r (fun i=>rs c (fun j=>if A i then x i j else 0)):=B4 fun i hi=>by
  cases A i
  ·simp[CV]
  ·simp[hR i hi]
 have e2:rs c (fun j=>if B j then C j else 0)=rs r (fun i=>rs c (fun j=>if B j then x i j else 0)):=by
  rw[R3];exact B4 fun j hj=>by
   cases B j
   ·simp[CV]
   ·simp[hC j hj]
 rw[e1,e2];have e3:rs r (fun i=>rs c (fun j=>gc (A i) (B j) (l i j) (u i j)+(if A i then x i j else 0)-(if B j then x i j else 0)))=
   rs r (fun i=>rs c (fun j=>gc (A i) (B j) (l i j) (u i j))+rs c (fun j=>if A i then x i j else 0)-rs c (fun j=>if B j then x i j else 0)):=B4 fun i _=>by
  rw[EX,DE]
 rw[e3,EX,DE];omega
theorem M4{n:Nat}{f:Nat→Int}(h:∀i,i<n→f i≤0)(hz:0≤rs n f):∀i,i<n→f i=0:=by
 intro i hi;have h1:=KQ hi (f:=fun i=>0-f i) (fun k hk=>by have:=h k hk;omega);rw[EX,CV]at h1;have:=h i hi;omega
def QN(r:Nat)(g:I)(v w:Nat):Prop:=(v<r∧r≤w∧AJ g v (w-r)=1)∨(r≤v∧w<r∧AJ g w (v-r)=0)
instance(r:Nat)(g:I)(v w:Nat):Decidable (QN r g v w):=by unfold QN;infer_instance
inductive D8(r c:Nat)(g:I)(a:Nat):Nat→Prop
 |refl:D8 r c g a a
 |step {v w:Nat}:D8 r c g a v→QN r g v w→w<r+c→D8 r c g a w
theorem D8.lt{a:Nat}{g:I}(h:D8 r c g a v)(ha:a<r+c):v<r+c:=by
 cases h with
 |refl=>exact ha
 |step _ _ hw=>exact hw
theorem D8.closed{a:Nat}{g:I}{S:Nat→Prop}(ha:S a)(fm:a<r+c)(hS:∀v w,v<r+c→w<r+c→S v→QN r g v w→S w)(h:D8 r c g a v):S v:=by
 induction h with
 |refl=>exact ha
 |step h1 he hw ih=>exact hS _ _ (h1.lt fm) hw ih he
theorem A3V{g:I}(hg:Da xs ys r c g){A B:Nat→Bool}(hz:0≤BD r c (Th xs) (Th ys) (fun _ _=>0) (fun _ _=>1) A B):
  ∀i j,i<r→j<c→(A i=true→B j=false→AJ g i j=1)∧(A i=false→B j=true→AJ g i j=0):=by
 obtain⟨gs,gr,gcl⟩:=E7.1 hg;rw[Vu (x:=fun i j=>AJ g i j) gr gcl]at hz;have key:∀i j,gc (A i) (B j) 0 1+(if A i then AJ g i j else 0)-(if B j then AJ g i j else 0)≤0:=by
  intro i j;have:=AS gs i j;cases A i<;>cases B j<;>simp[gc]<;>omega
 have h1:=M4 (fun i _=>by
  have:=Fm (n:=c) (g:=fun _=>0) fun j _=>key i j;rwa[CV]at this) hz
 intro i j hi hj;have h2:=M4 (fun j _=>key i j) (by rw[h1 i hi];exact Int.le_refl _) j hj;refine⟨fun ha hb=>?_,fun ha hb=>?_⟩
 ·rw[ha,hb]at h2;simp[gc]at h2;omega
 ·rw[ha,hb]at h2;simp[gc]at h2;omega
theorem Uc(hi:i0<r)(hj:j0<c)(R C:Nat→Int)(l u:Nat→Nat→Int)(v:Int)(A B:Nat→Bool):
  BD r c R C l (Ex u i0 j0 v) A B=BD r c R C l u A B+if A i0&&!B j0 then u i0 j0-v else 0:=by
 unfold BD;have h1:=K3 hi (f:=fun i=>rs c (fun j=>gc (A i) (B j) (l i j) (Ex u i0 j0 v i j))) (g:=fun i=>rs c (fun j=>gc (A i) (B j) (l i j) (u i j))) (fun k _ aK=>B4 fun j _=>by simp only[Ex];rw[if_neg (fun e=>aK e.1)]);have h2:=K3 hj (f:=fun j=>gc (A i0) (B j) (l i0 j) (Ex u i0 j0 v i0 j)) (g:=fun j=>gc (A i0) (B j) (l i0 j) (u i0 j)) (fun k _ aK=>by simp only[Ex];rw[if_neg (fun e=>aK e.2)]);rw[h1,h2];simp only[Ex,and_self,if_true];cases A i0<;>cases B j0<;>simp[gc]<;>omega
theorem UC(hi:i0<r)(hj:j0<c)(R C:Nat→Int)(l u:Nat→Nat→Int)(v:Int)(A B:Nat→Bool):
  BD r c R C (Ex l i0 j0 v) u A B=BD r c R C l u A B+if B j0&&!A i0 then v-l i0 j0 else 0:=by
 unfold BD;have h1:=K3 hi (f:=fun i=>rs c (fun j=>gc (A i) (B j) (Ex l i0 j0 v i j) (u i j))) (g:=fun i=>rs c (fun j=>gc (A i) (B j) (l i j) (u i j))) (fun k _ aK=>B4 fun j _=>by simp only[Ex];rw[if_neg (fun e=>aK e.1)]);have h2:=K3 hj (f:=fun j=>gc (A i0) (B j) (Ex l i0 j0 v i0 j) (u i0 j)) (g:=fun j=>gc (A i0) (B j) (l i0 j) (u i0 j)) (fun k _ aK=>by simp only[Ex];rw[if_neg (fun e=>aK e.2)]);rw[h1,h2];simp only[Ex,and_self,if_true];cases A i0<;>cases B j0<;>simp[gc]<;>omega
open Classical in
theorem Zr{g:I}(hs:AP xs=AP ys)(hg:Da xs ys xs.length ys.length g){x:Nat}(hy:y<xs.length)(hx:x<ys.length)(_:AJ g y x=1):
  (∃h,Da xs ys xs.length ys.length h∧AJ h y x=0)↔D8 xs.length ys.length g (xs.length+x) y:=by
 obtain⟨gs,gr,gcl⟩:=E7.1 hg;constructor
 ·rintro⟨h,hh,h0⟩;apply Classical.byContradiction;intro hn;have eC:=AS hh.1;have h2:=KF hh (l:=fun _ _=>0) (u:=Ex (fun _ _=>1) y x 0) (fun i j _ _=>by
   simp only[Ex]
   split
   ·rename_i e;rw[e.1,e.2,h0];decide
   ·exact eC i j) (fun i=>!(decide (D8 xs.length ys.length g (xs.length+x) i))) (fun j=>!(decide (D8 xs.length ys.length g (xs.length+x) (xs.length+j))))
  rw[Uc hy hx]at h2;have h3:0≤BD xs.length ys.length (Th xs) (Th ys) (fun _ _=>0) (fun _ _=>1) (fun i=>!(decide (D8 xs.length ys.length g (xs.length+x) i))) (fun j=>!(decide (D8 xs.length ys.length g (xs.length+x) (xs.length+j)))):=by
   rw[Vu (x:=fun i j=>AJ g i j) gr gcl];refine EL fun i hi=>EL fun j hj=>?_;have b:=AS gs i j;by_cases iB:D8 xs.length ys.length g (xs.length+x) i
   ·by_cases gz:D8 xs.length ys.length g (xs.length+x) (xs.length+j)
    ·simp[iB,gz,gc]
    ·have hz:AJ g i j=0:=by
      apply Classical.byContradiction;intro aK;exact gz (iB.step (.inl ⟨hi,Nat.le_add_right _ _,by rw[Nat.add_sub_cancel_left];omega⟩) J)
     simp[iB,gz,gc,hz]
   ·by_cases gz:D8 xs.length ys.length g (xs.length+x) (xs.length+j)
    ·have ho:AJ g i j=1:=by
      apply Classical.byContradiction;intro aK;exact iB (gz.step (.inr ⟨Nat.le_add_right _ _,hi,by rw[Nat.add_sub_cancel_left];omega⟩) J)
     simp[iB,gz,gc,ho]
    ·simp[iB,gz,gc]
  rw[show(!(decide (D8 xs.length ys.length g (xs.length+x) y))&&!!(decide (D8 xs.length ys.length g (xs.length+x) (xs.length+x))))=true from by simp[hn,D8.refl]]at h2;simp only[if_true]at h2;omega
 ·intro hre;rcases VA hs (l:=fun _ _=>0) (u:=Ex (fun _ _=>1) y x 0) (fun i j _ _=>by simp only[Ex];split<;>omega)with⟨h,hh,hb⟩|⟨A,B,hn⟩
  ·refine⟨h,hh,?_⟩;have:=hb y x hy hx;simp only[Ex,and_self,if_true]at this;omega
  ·exfalso;rw[Uc hy hx]at hn;have h2:=KF hg (l:=fun _ _=>0) (u:=fun _ _=>1) (fun i j _ _=>AS gs i j) A B;cases hA:A y
   ·rw[hA]at hn;simp at hn;omega
   have hB:B x=false:=by
    cases hB:B x
    ·rfl
    ·exfalso;rw[hA,hB]at hn;simp at hn;omega
   rw[hA,hB]at hn;simp only[Bool.not_false,Bool.and_self,if_true]at hn;have ht:=A3V hg (A:=A) (B:=B) J;have hc:=hre.closed (S:=fun v=>(v<xs.length→A v=false)∧(xs.length≤v→B (v-xs.length)=false)) ⟨fun h=>by omega,fun _=>by rw[Nat.add_sub_cancel_left];exact hB⟩ J (fun v w hv hw hS he=>by
    rcases he with⟨e1,e2,e3⟩|⟨e1,e2,e3⟩
    ·refine⟨fun h=>by omega,fun _=>?_⟩;cases hb:B (w-xs.length)
     ·rfl
     ·have:=(ht v (w-xs.length) e1 J).2 (hS.1 e1) hb;omega
    ·refine⟨fun _=>?_,fun h=>by omega⟩;cases ha:A w
     ·rfl
     ·have:=(ht w (v-xs.length) e2 J).1 ha (hS.2 e1);omega)
   rw[hc.1 hy]at hA;cases hA
open Classical in
theorem Z4{g:I}(hs:AP xs=AP ys)(hg:Da xs ys xs.length ys.length g){x:Nat}(hy:y<xs.length)(hx:x<ys.length)(_:AJ g y x=0):
  (∃h,Da xs ys xs.length ys.length h∧AJ h y x=1)↔D8 xs.length ys.length g y (xs.length+x):=by
 obtain⟨gs,gr,gcl⟩:=E7.1 hg;constructor
 ·rintro⟨h,hh,h0⟩;apply Classical.byContradiction;intro hn;have eC:=AS hh.1;have h2:=KF hh (l:=Ex (fun _ _=>0) y x 1) (u:=fun _ _=>1) (fun i j _ _=>by
   simp only[Ex]
   split
   ·rename_i e;rw[e.1,e.2,h0];decide
   ·exact eC i j) (fun i=>!(decide (D8 xs.length ys.length g y i))) (fun j=>!(decide (D8 xs.length ys.length g y (xs.length+j))))
  rw[UC hy hx]at h2;have h3:0≤BD xs.length ys.length (Th xs) (Th ys) (fun _ _=>0) (fun _ _=>1) (fun i=>!(decide (D8 xs.length ys.length g y i))) (fun j=>!(decide (D8 xs.length ys.length g y (xs.length+j)))):=by
   rw[Vu (x:=fun i j=>AJ g i j) gr gcl];refine EL fun i hi=>EL fun j hj=>?_;have b:=AS gs i j;by_cases iB:D8 xs.length ys.length g y i
   ·by_cases gz:D8 xs.length ys.length g y (xs.length+j)
    ·simp[iB,gz,gc]
    ·have hz:AJ g i j=0:=by
      apply Classical.byContradiction;intro aK;exact gz (iB.step (.inl ⟨hi,Nat.le_add_right _ _,by rw[Nat.add_sub_cancel_left];omega⟩) J)
     simp[iB,gz,gc,hz]
   ·by_cases gz:D8 xs.length ys.length g y (xs.length+j)
    ·have ho:AJ g i j=1:=by
      apply Classical.byContradiction;intro aK;exact iB (gz.step (.inr ⟨Nat.le_add_right _ _,hi,by rw[Nat.add_sub_cancel_left];omega⟩) J)
     simp[iB,gz,gc,ho]
    ·simp[iB,gz,gc]
  rw[show(!(decide (D8 xs.length ys.length g y (xs.length+x)))&&!!(decide (D8 xs.length ys.length g y y)))=true from by simp[hn,D8.refl]]at h2;simp only[if_true]at h2;omega
 ·intro hre;rcases VA hs (l:=Ex (fun _ _=>0) y x 1) (u:=fun _ _=>1) (fun i j _ _=>by simp only[Ex];split<;>omega)with⟨h,hh,hb⟩|⟨A,B,hn⟩
  ·refine⟨h,hh,?_⟩;have:=hb y x hy hx;simp only[Ex,and_self,if_true]at this;omega
  ·exfalso;rw[UC hy hx]at hn;have h2:=KF hg (l:=fun _ _=>0) (u:=fun _ _=>1) (fun i j _ _=>AS gs i j) A B;cases hB:B x
   ·rw[hB]at hn;simp at hn;omega
   have hA:A y=false:=by
    cases hA:A y
    ·rfl
    ·exfalso;rw[hA,hB]at hn;simp at hn;omega
   rw[hA,hB]at hn;simp only[Bool.not_false,Bool.and_self,if_true]at hn;have ht:=A3V hg (A:=A) (B:=B) J;have hc:=hre.closed (S:=fun v=>(v<xs.length→A v=false)∧(xs.length≤v→B (v-xs.length)=false)) ⟨fun _=>hA,fun h=>by omega⟩ J (fun v w hv hw hS he=>by
    rcases he with⟨e1,e2,e3⟩|⟨e1,e2,e3⟩
    ·refine⟨fun h=>by omega,fun _=>?_⟩;cases hb:B (w-xs.length)
     ·rfl
     ·have:=(ht v (w-xs.length) e1 J).2 (hS.1 e1) hb;omega
    ·refine⟨fun _=>?_,fun h=>by omega⟩;cases ha:A w
     ·rfl
     ·have:=(ht w (v-xs.length) e2 J).1 ha (hS.2 e1);omega)
   have:=hc.2 (Nat.le_add_right _ _);rw[Nat.add_sub_cancel_left,hB]at this;cases this
def ME(c:Nat)(n:Int)(g:I):Int:=AJ g (n.toNat/c) (n.toNat % c)
def C5(c:Nat)(m h:I)(cells:U):Bool:=cells.all fun n=>decide (ME c n h=ME c n m)
def Cb(c:Nat)(L:List I)(m:I)(cells:U):List I:=L.filter fun h=>C5 c m h cells
def CN(c:Nat)(L:List I)(m:I)(cells:U):Nat:=(Cb c L m cells).length
def DJ(N:Nat)(l:U):Prop:=l.Pairwise (fun a b=>a<b)∧∀x∈l,0≤x∧x<N
theorem Pp(c:Nat)(m h:I)(cells:U)(n:Int):C5 c m h (cells++[n])=(C5 c m h cells&&decide (ME c n h=ME c n m)):=by
 simp[C5]
theorem Vz(c:Nat)(m:I)(cells:U):C5 c m m cells=true:=by
 unfold C5;rw[Ar];intro n _;simp
theorem Xj{a b:U}(gZ:∀x,x∈a↔x∈b):C5 c m h a=C5 c m h b:=by
 unfold C5;rw[Bool.eq_iff_iff,Ar,Ar];exact⟨fun h x hx=>h x ((gZ x).2 hx),fun h x hx=>h x ((gZ x).1 hx)⟩
theorem XV{a b:U}(gZ:∀x,x∈a↔x∈b):CN c L m a=CN c L m b:=by
 unfold CN Cb;rw[show(fun h=>C5 c m h a)=fun h=>C5 c m h b from funext fun h=>Xj gZ]
theorem Mp(hm:m∈L)(cells:U):1≤CN c L m cells:=by
 have:m∈Cb c L m cells:=List.mem_filter.2 ⟨hm,Vz c m cells⟩;exact List.length_pos_of_mem this
theorem Nm(c:Nat)(L:List I)(m:I)(cells:U)(n:Int):Cb c L m (cells++[n])=(Cb c L m cells).filter fun h=>decide (ME c n h=ME c n m):=by
 unfold Cb;rw[List.filter_filter]
 congr 1
 funext h
 rw[Pp,Bool.and_comm]
theorem A0Q(p:α→Bool){l:List α}{x:α}(hx:x∈l)(hp:p x=false):(l.filter p).length<l.length:=by
 apply Classical.byContradiction;intro hn;have h1:=List.length_filter_le p l;have h2:(l.filter p).length=l.length:=J;have h3:=List.length_filter_eq_length_iff.1 h2 x hx;rw[hp]at h3;cases h3
theorem A1R(hc:1≤c){g:I}(hg:Ax r c g)(hh:Ax r c h)(aK:g≠h):∃n:Nat,n<r*c∧ME c n g≠ME c n h:=by
 apply Classical.byContradiction;intro hn;apply aK;refine hg.ext hh fun i j hi hj=>?_;show AJ g i j=AJ h i j;apply Classical.byContradiction;intro hd;have aF:i*c+j<r*c:=by
  have:(i+1)*c≤r*c:=Nat.mul_le_mul_right c hi;rw[Nat.succ_mul]at this;omega
 refine hn ⟨i*c+j,aF,?_⟩;unfold ME;rw[Int.toNat_natCast,show(i*c+j) /c=i from by rw[Nat.mul_comm,Nat.mul_add_div J,Nat.div_eq_of_lt hj,AF],show(i*c+j) % c=j from by rw[Nat.mul_comm,Nat.mul_add_mod,Nat.mod_eq_of_lt hj]];exact hd
theorem A1f(hc:1≤c)(gn:L.Pairwise (fun a b=>a≠b))(hL:∀g∈L,Ax r c g)(hm:m∈L)(h:1<CN c L m cells):∃n:Nat,n<r*c∧CN c L m (cells++[(n:Int)])<CN c L m cells:=by
 have bK:∃g∈Cb c L m cells,g≠m:=by
  apply Classical.byContradiction;intro hn;have wu:(Cb c L m cells).Pairwise (fun a b=>a≠b):=gn.filter _;have aQ:∀g∈Cb c L m cells,g=m:=fun g hg=>Classical.byContradiction fun aK=>hn ⟨g,hg,aK⟩;unfold CN at h;rw[List.pairwise_iff_getElem]at wu;exact wu 0 1 J h J ((aQ _ (List.getElem_mem _)).trans (aQ _ (List.getElem_mem _)).symm)
 obtain⟨g,hg,aK⟩:=bK;have hgL:=(List.mem_filter.1 hg).1;obtain⟨n,hn,hd⟩:=A1R hc (hL g hgL) (hL m hm) aK;refine⟨n,hn,?_⟩;unfold CN;rw[Nm];exact A0Q _ hg (by simpa using hd)
theorem A3x{n:Int}(hn:n∈cells):CN c L m (cells++[n])=CN c L m cells:=
 XV fun x=>by
  rw[List.mem_append,List.mem_singleton];exact⟨fun h=>h.elim id fun e=>by rw[e];exact hn,.inl⟩
def Dc(f:Nat→Nat):Nat→Nat
 |0=>0
 |n+1=>if n=0 then 0 else if f n<f (Dc f n)then n else Dc f n
theorem Mr(f:Nat→Nat):∀n,1≤n→Dc f n<n∧∀k,k<n→f (Dc f n)≤f k:=by
 intro n;induction n with
 |zero=>intro h;omega
 |succ n ih=>
  intro _;rw[Dc];by_cases h0:n=0
  ·rw[if_pos h0];exact⟨J,fun k hk=>by rw[show k=0 by omega];exact A2 _⟩
  ·rw[if_neg h0];obtain⟨h1,h2⟩:=ih J
   split
   ·exact⟨J,fun k hk=>by
     by_cases e:k=n
     ·rw[e];exact A2 _
     ·have:=h2 k J;omega⟩
   ·exact⟨J,fun k hk=>by
     by_cases e:k=n
     ·rw[e];omega
     ·exact h2 k J⟩
theorem L0(f:Nat→Nat):Dc f 1=0:=by rw[Dc,if_pos rfl]
theorem JP{f:Nat→Nat}{n:Nat}(h:1≤n):Dc f (n+1)=if f n<f (Dc f n)then n else Dc f n:=by rw[Dc,if_neg J]
def Fh(n:Int):U→U
 |[]=>[n]
 |x::l=>if n<x then n::x::l else x::Fh n l
theorem G5(n:Int):∀l:U,(Fh n l).Perm (l++[n])
 |[]=>List.Perm.refl _
 |x::l=>by
  unfold Fh
  split
  ·exact List.perm_append_comm (l₁:=[n]) (l₂:=x::l)
  ·exact List.Perm.cons x (G5 n l)
theorem X9{n:Int}(h:DJ N l)(hn:n∉l)(h0:0≤n)(h1:n<N):DJ N (Fh n l):=by
 refine⟨?_,fun x hx=>?_⟩
 ·have hp:=h.1;clear h;induction l with
  |nil=>exact List.pairwise_singleton _ _
  |cons a l ih=>
   rw[List.pairwise_cons]at hp;unfold Fh
   split
   ·rename_i aF
    rw[List.pairwise_cons,List.pairwise_cons];refine⟨fun b hb=>?_,hp⟩;rcases List.mem_cons.1 hb with rfl|hb
    ·exact aF
    ·have:=hp.1 b hb;omega
   ·rename_i hge
    rw[List.pairwise_cons];refine⟨fun b hb=>?_,ih (fun e=>hn (AL _ e)) hp.2⟩;rcases List.mem_append.1 ((G5 n l).mem_iff.1 hb)with hb|hb
    ·exact hp.1 b hb
    ·rw[List.mem_singleton]at hb;have:n≠a:=fun e=>hn (by rw[e];simp);omega
 ·rcases List.mem_append.1 ((G5 n l).mem_iff.1 hx)with hb|hb
  ·exact h.2 x hb
  ·rw[List.mem_singleton]at hb;omega
theorem A17{a b:U}(hp:a.Perm b)(h1:a.Pairwise (fun x y=>x<y))(h2:b.Pairwise (fun x y=>x<y)):a=b:=
 Uz (fun x h=>by omega) (fun x y h k=>by omega) h1 h2 fun _=>hp.mem_iff
def C9(c N:Nat)(L:List I)(m:I)(cells:U):Nat:=Dc (fun k=>CN c L m (cells++[(k:Int)])) N
def Gb(c N:Nat)(L:List I)(m:I):Nat→U→U
 |0,out=>out
 |f+1,out=>if CN c L m out≤1 then out else Gb c N L m f (Fh (C9 c N L m out) out)
theorem Mu(h:CN c L m out≤1)(f:Nat):Gb c N L m f out=out:=by
 cases f with
 |zero=>rfl
 |succ f=>rw[Gb,if_pos h]
theorem MG(h:¬CN c L m out≤1)(f:Nat):Gb c N L m (f+1) out=Gb c N L m f (Fh (C9 c N L m out) out):=by
 rw[Gb,if_neg h]
theorem PK(hr:1≤r)(hc:1≤c)(gn:L.Pairwise (fun a b=>a≠b))(hL:∀g∈L,Ax r c g)(hm:m∈L)(dR:DJ (r*c) cells)(h:¬CN c L m cells≤1):
  C9 c (r*c) L m cells<r*c∧((C9 c (r*c) L m cells:Nat):Int)∉cells∧CN c L m (cells++[((C9 c (r*c) L m cells:Nat):Int)])<CN c L m cells∧DJ (r*c) (Fh (C9 c (r*c) L m cells) cells)∧
  CN c L m (Fh (C9 c (r*c) L m cells) cells)<CN c L m cells:=by
 have hN:1≤r*c:=Nat.mul_pos hr hc;obtain⟨h1,h2⟩:=Mr (fun k=>CN c L m (cells++[(k:Int)])) (r*c) hN;obtain⟨n,hn,aF⟩:=A1f hc gn hL hm (by omega:1<CN c L m cells);have h3:=h2 n hn;have h4:CN c L m (cells++[((C9 c (r*c) L m cells:Nat):Int)])<CN c L m cells:=Nat.lt_of_le_of_lt h3 aF;have h5:((C9 c (r*c) L m cells:Nat):Int)∉cells:=fun e=>by rw[A3x e]at h4;omega
 refine⟨h1,h5,h4,X9 dR h5 J (by have:C9 c (r*c) L m cells<r*c:=h1
                                omega),?_⟩
 rw[XV (b:=cells++[((C9 c (r*c) L m cells:Nat):Int)]) fun x=>(G5 _ cells).mem_iff];exact h4
theorem Tx(hr:1≤r)(hc:1≤c)(gn:L.Pairwise (fun a b=>a≠b))(hL:∀g∈L,Ax r c g)(hm:m∈L):∀(f:Nat)(cells:U),DJ (r*c) cells→CN c L m cells≤f+1→
  DJ (r*c) (Gb c (r*c) L m f cells)∧CN c L m (Gb c (r*c) L m f cells)=1:=by
 intro f;induction f with
 |zero=>
  intro cells dR hcnt;exact⟨dR,by have:=Mp (c:=c) hm cells;show CN c L m cells=1;omega⟩
 |succ f ih=>
  intro cells dR hcnt;by_cases h:CN c L m cells≤1
  ·rw[Mu h];exact⟨dR,by have:=Mp (c:=c) hm cells;omega⟩
  ·rw[MG h];obtain⟨-,-,-,h4,h5⟩:=PK hr hc gn hL hm dR h;exact ih _ h4 J
def A1B:U→U→Prop
 |a::p,b::q=>a<b∨(a=b∧A1B p q)
 |_,_=>False
def A1V(p q:U):Prop:=p.length<q.length∨(p.length=q.length∧(p=q∨A1B p q))
theorem RY:∀{p q:U},A1B p q→A1B q p→False
 |[],_,h,_=>h
 |_::_,[],h,_=>h
 |a::p,b::q,h1,h2=>by
  rcases h1 with h1|⟨rfl,h1⟩
  ·rcases h2 with h2|⟨e,-⟩<;>omega
  ·rcases h2 with h2|⟨-,h2⟩
   ·omega
   ·exact RY h1 h2
theorem T5{p q:U}(h1:A1V p q)(h2:A1V q p):p=q:=by
 rcases h1 with h1|⟨e1,h1⟩
 ·rcases h2 with h2|⟨e2,-⟩<;>omega
 ·rcases h1 with h1|h1
  ·exact h1
  ·rcases h2 with h2|⟨-,h2⟩
   ·omega
   ·rcases h2 with h2|h2
    ·exact h2.symm
    ·exact(RY h1 h2).elim
def Sz(f:U→Bool)(N:Nat)(W:U):Prop:=(DJ N W∧f W=true)∧∀q,DJ N q→f q=true→A1V W q
theorem Sz.eq{f:U→Bool}{W V:U}(h1:Sz f N W)(h2:Sz f N V):W=V:=T5 (h1.2 V h2.1.1 h2.1.2) (h2.2 W h1.1.1 h1.1.2)
def MP(N first:Nat)(l:U):Prop:=l.Pairwise (fun a b=>a<b)∧∀x∈l,(first:Int)≤x∧x<N
theorem MP.cons{N first:Nat}{a:Int}{l:U}(h:MP N first (a::l)):∃k,first+k<N∧a=((first+k:Nat):Int)∧MP N (first+k+1) l:=by
 have ha:=h.2 a Jj;refine⟨a.toNat-first,J,J,?_⟩;have hp:=h.1;rw[List.pairwise_cons]at hp;refine⟨hp.2,fun x hx=>⟨?_,(h.2 x (AL _ hx)).2⟩⟩;have:=hp.1 x hx;omega
theorem R8:MP N 0 l↔DJ N l:=by unfold MP DJ;simp
theorem KV:∀{l:U}{first:Nat},MP N first l→first≤N→l.length+first≤N
 |[],first,_,h=>by simpa using h
 |a::l,first,h,_=>by
  obtain⟨k,h1,-,h3⟩:=h.cons;have:=KV h3 J;rw[An];omega
instance A3y:(p q:U)→Decidable (A1B p q)
 |[],_=>isFalse fun h=>h
 |_::_,[]=>isFalse fun h=>h
 |a::p,b::q=>by
  have:=A3y p q;unfold A1B;infer_instance
def RU(x:Int):Int:=if x<0 then-x else x
theorem A3j(x:Int):0≤RU x:=by unfold RU;split<;>omega
theorem A0t(x y:Int):RU (x-y)=RU (y-x):=by unfold RU;split<;>split<;>omega
def JD(a b:U):Nat→Int
 |0=>0
 |k+1=>JD a b k+RU (a.getD k 0-b.getD k 0)
def gap(a b:U):Int:=JD a b a.length
theorem Oe{a b:U}{k:Nat}{x y:Int}(hx:a[k]? =some x)(hy:b[k]? =some y):JD a b (k+1)=JD a b k+RU (x-y):=by
 simp only[JD,List.getD,hx,hy,Option.getD_some]
theorem IT{a b:U}(ha:∀x∈a,0≤x∧x≤5)(hb:∀x∈b,0≤x∧x≤5):∀k,0≤JD a b k∧JD a b k≤5*k:=by
 intro k;induction k with
 |zero=>simp[JD]
 |succ k ih=>
  have h1:0≤a.getD k 0∧a.getD k 0≤5:=by
   simp only[List.getD];cases h:a[k]? with
   |none=>simp
   |some x=>simpa using ha x (A4 h)
  have h2:0≤b.getD k 0∧b.getD k 0≤5:=by
   simp only[List.getD];cases h:b[k]? with
   |none=>simp
   |some x=>simpa using hb x (A4 h)
  simp only[JD];have h3:0≤RU (a.getD k 0-b.getD k 0)∧RU (a.getD k 0-b.getD k 0)≤5:=by unfold RU;split<;>omega
  omega
def Ca(rows cols:U)(m:I):Bool:=DP rows cols&&AC m&&decide (m.length=rows.length)&&decide ((m.headD []).length=cols.length)
def Bs(rows cols:U)(m:I):Int:=if Ca rows cols m then gap rows (Ae m)+gap cols (Al m)else-1
theorem SV(h:Ax r c m)(hc:c≤5):∀x∈m.map AP,0≤x∧x≤5:=by
 intro x hx;obtain⟨row,hr,rfl⟩:=AE.1 hx;have h1:=h.qbs hr;have:=(h.2 row hr).1;omega
theorem KK(h:Ax r c m)(h1:1≤r)(h2:r≤5)(h3:1≤c)(h4:c≤5):Ae m=m.map AP:=by unfold Ae;rw[if_pos (h.ok h1 h2 h3 h4)]
theorem A3s(h:Ax r c m)(h1:1≤r)(h2:r≤5)(h3:1≤c)(h4:c≤5):Mq m=tr m:=by unfold Mq;rw[if_pos (h.ok h1 h2 h3 h4)]
theorem Pr(h:Ax r c m)(h1:1≤r)(h2:r≤5)(h3:1≤c)(h4:c≤5):Al m=(tr m).map AP:=by
 unfold Al;rw[A3s h h1 h2 h3 h4,KK (h.tr h1) h3 h4 h1 h2]
theorem Cr(h:Ax r c m)(h1:1≤r)(h2:r≤5)(h3:1≤c)(h4:c≤5):(Ae m).length=r∧∀x∈Ae m,0≤x∧x≤5:=by
 rw[KK h h1 h2 h3 h4];exact⟨by simp[h.1],SV h h4⟩
theorem Cv(h:Ax r c m)(h1:1≤r)(h2:r≤5)(h3:1≤c)(h4:c≤5):(Al m).length=c∧∀x∈Al m,0≤x∧x≤5:=by
 rw[Pr h h1 h2 h3 h4];exact⟨by simp[(h.tr h1).1],SV (h.tr h1) h2⟩
structure ChangeAt(rows cols:U)(m:I)(r c:Nat):Prop where
 r1:1≤r
 r4:r≤4
 c1:1≤c
 c4:c≤4
 rl:rows.length=r
 cl:cols.length=c
 sh:Ax r c m
 rb:∀x∈rows,0≤x∧x≤5
 cb:∀x∈cols,0≤x∧x≤5
theorem FR(h:DP rows cols=true):1≤rows.length∧rows.length≤4∧1≤cols.length∧cols.length≤4∧(∀x∈rows,0≤x∧x≤cols.length)∧(∀x∈cols,0≤x∧x≤rows.length):=by
 unfold DP at h;simp only[Af,Bz,Ar]at h;obtain⟨⟨⟨h1,h2⟩,h3⟩,h4⟩:=h;exact⟨J,J,J,J,h3,h4⟩
theorem Ml(h:Ca rows cols m=true):∃r c,ChangeAt rows cols m r c:=by
 unfold Ca at h;simp only[Af,Ah]at h;obtain⟨⟨⟨h1,h2⟩,h3⟩,h4⟩:=h;obtain⟨r,c,a1,a2,a3,a4,hs⟩:=Az h2;obtain⟨k1,k2,k3,k4,k5,k6⟩:=FR h1;have e1:=hs.1;have e2:=hs.head a1;exact⟨r,c,a1,J,a3,J,J,J,hs,fun x hx=>by have:=k5 x hx;omega,fun x hx=>by have:=k6 x hx;omega⟩
theorem Q0(h:Ca rows cols m=true):0≤Bs rows cols m∧Bs rows cols m≤40:=by
 obtain⟨r,c,H⟩:=Ml h;obtain⟨h1,h2,h3,h4,h5,h6,hs,eE,eL⟩:=H;unfold Bs;rw[if_pos h];have a1:=IT eE (Cr hs h1 J h3 J).2 rows.length;have a2:=IT eL (Cv hs h1 J h3 J).2 cols.length;unfold gap;omega
def Kh(r c key n:Nat):I:=(List.range r).map fun y=>(List.range c).map fun x=>if y*c+x<n then Dm (r*c) key (y*c+x)else 0
theorem YW(r c key:Nat):Kh r c key 0=BJ r c:=by
 simp[Kh,BJ,List.map_const']
theorem A0I(r c key:Nat):Kh r c key (r*c)=E0 r c key:=by
 unfold Kh E0 CG;apply List.map_congr_left;intro y hy;apply List.map_congr_left;intro x hx;rw[AG]at hx hy;have h1:y*c+x<r*c:=by
  have:(y+1)*c≤r*c:=Nat.mul_le_mul_right _ hy;rw[Nat.succ_mul]at this;omega
 rw[if_pos h1,if_pos (A7 _)]
theorem MK{n:Nat}(hy:y<r):(Kh r c key n)[y]? =some ((List.range c).map fun x=>if y*c+x<n then Dm (r*c) key (y*c+x)else 0):=by simp[Kh,hy]
theorem YY{n:Nat}(hc:0<c)(hn:n<r*c){row:U}(aD:(Kh r c key n)[n/c]? =some row):(Kh r c key n).set (n/c) (row.set (n % c) (Dm (r*c) key n))=Kh r c key (n+1):=by
 have hy:n/c<r:=by rw[Nat.div_lt_iff_lt_mul hc];exact hn
 have hx:n % c<c:=Nat.mod_lt _ hc;rw[MK hy]at aD;obtain rfl:=Option.some.inj aD;apply Se (r:=r) (c:=c) (by simp[Kh]) (by simp[Kh]);intro y gV;have hq:=MK (c:=c) (key:=key) (n:=n+1) gV;by_cases qg:y=n/c
 ·refine⟨_,_,by rw[qg,List.getElem?_set_self (by simp[Kh];exact hy)],hq,Jj,Jj,fun x hxc=>?_⟩;rw[List.getElem?_set];by_cases nh:n % c=x
  ·rw[if_pos nh,if_pos (by simpa using hx)];have e:y*c+x=n:=(GI hxc).2 ⟨qg.symm,nh⟩;simp[hxc,e]
  ·rw[if_neg nh];have e:y*c+x≠n:=fun h=>nh ((GI hxc).1 h).2;simp only[Ak,AA hxc,Option.map_some,←qg];by_cases h1:y*c+x<n
   ·rw[if_pos h1,if_pos J]
   ·rw[if_neg h1,if_neg J]
 ·refine⟨_,_,by rw[List.getElem?_set_ne (fun e=>qg e.symm)];exact MK gV,hq,Jj,Jj,fun x hxc=>?_⟩;have e:y*c+x≠n:=fun h=>qg ((GI hxc).1 h).1.symm;simp only[Ak,AA hxc,Option.map_some];by_cases h1:y*c+x<n
  ·rw[if_pos h1,if_pos J]
  ·rw[if_neg h1,if_neg J]
theorem Qe(r c key:Nat):Ax r c (E0 r c key):=Ni _ _ _ _
def Ez(rows cols:U):Nat→Option (Nat×Int)
 |0=>none
 |k+1=>match Ez rows cols k with
  |none=>some (k,Bs rows cols (E0 rows.length cols.length k))
  |some (b,l)=>if Bs rows cols (E0 rows.length cols.length k)<l then some (k,Bs rows cols (E0 rows.length cols.length k))else some (b,l)
def Gj(rows cols:U):Bool:=DP rows cols&&decide (rows.length*cols.length≤12)
def BW(rows cols:U):Option (Nat×Int):=if Gj rows cols then Ez rows cols (2^(rows.length*cols.length))else none
theorem Oo(h:DP rows cols=true)(k:Nat):Ca rows cols (E0 rows.length cols.length k)=true:=by
 obtain⟨k1,k2,k3,k4,k5,k6⟩:=FR h;have hs:=Qe rows.length cols.length k;unfold Ca;rw[h,hs.ok k1 J k3 J,hs.1,hs.head k1];simp
def Gs(rows cols:U)(x:Option (Nat×Int)):I:=match x with|none=>[]|some (b,_)=>E0 rows.length cols.length b
def A2h(x:Option (Nat×Int)):Int:=match x with|none=>0|some (_,l)=>l
def QS:List Nat→Nat
 |[]=>0
 |b::l=>b*2^l.length+QS l
theorem YK(l:List Nat):∀k,l.foldl (fun k b=>2*k+b) k=k*2^l.length+QS l:=by
 induction l with
 |nil=>intro k;simp[QS]
 |cons b l ih=>
  intro k;rw[List.foldl_cons,ih,QS,An,Nat.pow_succ,Nat.add_mul];rw[Nat.mul_comm 2 k,Nat.mul_assoc,Nat.mul_comm 2 (2^l.length)];omega
theorem Ww:∀{l:List Nat},(∀b∈l,b≤1)→QS l<2^l.length
 |[],_=>by simp[QS]
 |b::l,h=>by
  have h1:=h b Jj;have h2:=Ww (l:=l) (fun x hx=>h x (AL _ hx));rw[QS,An,Nat.pow_succ];have:b*2^l.length≤1*2^l.length:=Nat.mul_le_mul_right _ h1;omega
theorem WL:∀{l:List Nat},(∀b∈l,b≤1)→∀{i b:Nat},l[i]? =some b→QS l/2^(l.length-1-i) % 2=b
 |[],_,i,b,h=>by simp at h
 |a::l,h,0,b,hb=>by
  simp at hb;subst hb;have h1:=h a Jj;have h2:=Ww (l:=l) (fun x hx=>h x (AL _ hx));rw[QS,An,Nat.sub_zero,Nat.add_sub_cancel,Nat.mul_comm a,Nat.mul_add_div (Nat.two_pow_pos _),Nat.div_eq_of_lt h2];omega
 |a::l,h,i+1,b,hb=>by
  have kg:l[i]? =some b:=by simpa using hb
  have hi:=(A5.1 kg).1;have ih:=WL (l:=l) (fun x hx=>h x (AL _ hx)) kg;rw[QS,An];obtain⟨m,hm⟩:∃m,m=l.length-1-i:=⟨_,rfl⟩;rw[show l.length+1-1-(i+1)=m by omega];rw[←hm]at ih;obtain⟨d,hd⟩:∃d,l.length=m+1+d:=⟨i,J⟩;have e:a*2^l.length=2^m*(2*(a*2^d)):=by
   rw[hd,Nat.pow_add,Nat.pow_succ];rw[Nat.mul_comm a,Nat.mul_assoc,Nat.mul_assoc,Nat.mul_comm (2^d) a]
  rw[e,Nat.mul_add_div (Nat.two_pow_pos _),Nat.mul_add_mod];exact ih
def Ij(r c:Nat)(g:I):List Nat:=(List.range (r*c)).map fun n=>(AJ g (n/c) (n % c)).toNat
def BN(r c:Nat)(g:I):Nat:=QS (Ij r c g)
theorem NZ(r c:Nat)(g:I):(Ij r c g).length=r*c:=by simp[Ij]
theorem NY{g:I}(h:Ax r c g):∀b∈Ij r c g,b≤1:=by
 intro b hb;obtain⟨n,-,rfl⟩:=AE.1 hb;have:=AS h (n/c) (n % c);omega
theorem Y4{g:I}(h:Ax r c g):BN r c g<2^(r*c):=by
 have:=Ww (NY h);rwa[NZ]at this
theorem VK{g:I}(h:Ax r c g){n:Nat}(hn:n<r*c):Dm (r*c) (BN r c g) n=AJ g (n/c) (n % c):=by
 have h1:=WL (NY h) (i:=n) (b:=(AJ g (n/c) (n % c)).toNat) (by unfold Ij;rw[Ak,AA hn];rfl);rw[NZ]at h1;unfold Dm BN;rw[h1];have:=AS h (n/c) (n % c);omega
theorem Uh(hc:1≤c){g:I}(h:Ax r c g):E0 r c (BN r c g)=g:=by
 refine(Qe r c _).ext h fun i j hi hj=>?_;show AJ _ i j=AJ g i j;have aF:i*c+j<r*c:=by
  have:(i+1)*c≤r*c:=Nat.mul_le_mul_right c hi;rw[Nat.succ_mul]at this;omega
 have e1:(i*c+j) /c=i:=by rw[Nat.mul_comm,Nat.mul_add_div J,Nat.div_eq_of_lt hj,AF]
 have e2:(i*c+j) % c=j:=by rw[Nat.mul_comm,Nat.mul_add_mod,Nat.mod_eq_of_lt hj]
 have hb:=VK h aF;rw[e1,e2]at hb;rw[←hb];unfold AJ E0 CG;rw[B7 (l:=(List.range r).map _) (x:=(List.range c).map fun x=>if 0≤i*c+x then Dm (r*c) (BN r c g) (i*c+x)else 0) (by rw[Ak,AA hi];rfl)];rw[B7 (x:=Dm (r*c) (BN r c g) (i*c+j))];rw[Ak,AA hj];simp
theorem OL(hc:1≤c){g:I}(hg:Ax r c g)(hh:Ax r c h)(e:BN r c g=BN r c h):g=h:=by
 rw[←Uh hc hg,e,Uh hc hh]
theorem Dv{g:I}(h:Ax r c g)(h1:1≤r)(h2:r≤5)(h3:1≤c)(h4:c≤5):Da (Ae g) (Al g) r c g:=by
 refine⟨h,fun i hi=>?_,fun j hj=>?_⟩
 ·rw[KK h h1 h2 h3 h4];obtain⟨e,-⟩:=CM h hi;rw[B7 (x:=AP (g.getD i []))];rw[Ak,e];rfl
 ·rw[Pr h h1 h2 h3 h4];have ht:=h.tr h1;obtain⟨e,-⟩:=CM ht hj;rw[B7 (x:=AP ((tr g).getD j []))]
  ·rw[YL ht hj,ZY h];exact B4 fun i hi=>(A4m h h1 hj hi).symm
  ·rw[Ak,e];rfl
structure NO(r c:Nat)(g:I)(a:Nat)(q:List Nat)(k w0:Nat):Prop where
 nd:q.Pairwise (fun x y=>x≠y)
 lt:∀v∈q,v<r+c
 start:a∈q
 re:∀v∈q,D8 r c g a v
 done:∀i v w,i<k→q[i]? =some v→w<r+c→QN r g v w→w∈q
 mid:∀v w,q[k]? =some v→w<w0→QN r g v w→w∈q
def JZ(n:Nat)(q:List Nat):List Bool:=(List.range n).map fun w=>decide (w∈q)
def H9(q:List Nat):U:=q.map fun v:Nat=>(v:Int)
theorem GK(q:List Nat):(H9 q).length=q.length:=by simp[H9]
theorem A2F{q:List Nat}{k:Nat}(h:q[k]? =some v):(H9 q)[k]? =some (v:Int):=by simp[H9,h]
theorem A07(q:List Nat)(w:Nat):H9 (q++[w])=H9 q++[(w:Int)]:=by simp[H9]
theorem GU(n:Nat)(q:List Nat):(JZ n q).length=n:=by simp[JZ]
theorem II{n:Nat}(q:List Nat)(h:w<n):(JZ n q)[w]? =some (decide (w∈q)):=by simp[JZ,h]
theorem Tf(n:Nat)(q:List Nat)(w:Nat):(JZ n q).set w true=JZ n (q++[w]):=by
 apply List.ext_getElem?;intro i;rw[List.getElem?_set,GU];by_cases hi:i<n
 ·rw[II _ hi,II _ hi];by_cases hw:w=i
  ·subst hw;rw[if_pos rfl,if_pos hi];simp
  ·rw[if_neg hw]
   congr 1
   have:(i∈q)=(i∈q++[w]):=by
    simp only[List.mem_append,List.mem_singleton,eq_iff_iff];exact⟨.inl,fun h=>h.elim id fun e=>absurd e.symm hw⟩
   simp only[this]
 ·by_cases hw:w=i
  ·rw[if_pos hw,if_neg J,Am (by rw[GU];omega)]
  ·rw[if_neg hw,Am (by rw[GU];omega),Am (by rw[GU];omega)]
theorem ZO(n:Nat):JZ n []=List.replicate n false:=by
 apply List.ext_getElem?;intro i;by_cases hi:i<n
 ·rw[II _ hi,List.getElem?_replicate,if_pos hi];simp
 ·rw[Am (by rw[GU];omega),Am (by simp;omega)]
theorem ZB{a:Nat}(g:I)(ha:a<r+c):NO r c g a [a] 0 0:=
 ⟨List.pairwise_singleton _ _,fun v hv=>by rw[List.mem_singleton]at hv;omega,Jj,fun v hv=>by rw[List.mem_singleton]at hv;rw[hv];exact .refl,fun i v w hi=>by omega,fun v w _ hw=>by omega⟩
theorem NO.add{a k:Nat}{g:I}{q:List Nat}(h:NO r c g a q k w)(hv:q[k]? =some v)(hw:w<r+c)(he:QN r g v w)(hn:w∉q):NO r c g a (q++[w]) k (w+1) where
 nd:=by
  rw[List.pairwise_append];refine⟨h.nd,List.pairwise_singleton _ _,fun x hx y hy=>?_⟩;rw[List.mem_singleton]at hy;subst hy;exact fun e=>hn (e▸hx)
 lt:=fun x hx=>by
  rcases List.mem_append.1 hx with hx|hx
  ·exact h.lt x hx
  ·rw[List.mem_singleton]at hx;omega
 start:=List.mem_append_left _ h.start
 re:=fun x hx=>by
  rcases List.mem_append.1 hx with hx|hx
  ·exact h.re x hx
  ·rw[List.mem_singleton]at hx;subst hx;exact(h.re v (A4 hv)).step he hw
 done:=fun i x y hi hx hy cK=>by
  have au:=(A5.1 hv).1;rw[Aq J]at hx;exact List.mem_append_left _ (h.done i x y hi hx hy cK)
 mid:=fun x y hx hy cK=>by
  have au:=(A5.1 hv).1;rw[Aq au]at hx;by_cases e:y=w
  ·rw[e];simp
  ·exact List.mem_append_left _ (h.mid x y hx J cK)
theorem NO.skip{a k:Nat}{g:I}{q:List Nat}(h:NO r c g a q k w)(hv:q[k]? =some v)(hn:QN r g v w→w∈q):NO r c g a q k (w+1):=
 ⟨h.nd,h.lt,h.start,h.re,h.done,fun x y hx hy cK=>by
   by_cases e:y=w
   ·subst e;rw[hv]at hx;obtain rfl:=Option.some.inj hx;exact hn cK
   ·exact h.mid x y hx J cK⟩
theorem NO.next{a k:Nat}{g:I}{q:List Nat}(h:NO r c g a q k w)(hw:r+c≤w):NO r c g a q (k+1) 0:=
 ⟨h.nd,h.lt,h.start,h.re,fun i v y hi hv hy cK=>by
   by_cases e:i=k
   ·subst e;exact h.mid v y hv J cK
   ·exact h.done i v y J hv hy cK,fun v y _ hy=>by omega⟩
theorem NO.len{a k:Nat}{g:I}{q:List Nat}(h:NO r c g a q k w):q.length≤r+c:=by
 have:=MT (fun v:Nat=>v) q (List.range (r+c)) h.nd fun v hv=>AG.2 (h.lt v hv);rwa[List.length_range]at this
theorem NO.all{a k:Nat}{g:I}{q:List Nat}(h:NO r c g a q k w)(hk:q.length≤k)(ha:a<r+c):∀v,v∈q↔D8 r c g a v:=fun v=>
 ⟨h.re v,fun hr=>hr.closed (S:=fun v=>v∈q) h.start ha fun x y _ hy hx he=>by
   obtain⟨i,hi⟩:=List.getElem?_of_mem hx;exact h.done i x y (by have:=(A5.1 hi).1;omega) hi hy he⟩
def K4(r:Nat)(m:I)(y x:Nat):Nat:=if AJ m y x=1 then r+x else y
def TG(r:Nat)(m:I)(y x:Nat):Nat:=if AJ m y x=1 then y else r+x
open Classical in
theorem Zj(hs:Ax r c m)(hr1:1≤r)(hr5:r≤5)(hc1:1≤c)(hc5:c≤5){x:Nat}(hy:y<r)(hx:x<c):
  (∃h,Da (Ae m) (Al m) r c h∧AJ h y x≠AJ m y x)↔D8 r c m (K4 r m y x) (TG r m y x):=by
 have hS:=Dv hs hr1 hr5 hc1 hc5;have aj:=(Cr hs hr1 hr5 hc1 hc5).1;have ah:=(Cv hs hr1 hr5 hc1 hc5).1;have hok:AT (Ae m) (Al m)=true:=IG J J J J (by rw[aj,ah];exact hS);have i6:AP (Ae m)=AP (Al m):=by
  obtain⟨-,-,-,-,-,-,h⟩:=BG hok;exact h
 have hb:=AS hs y x;unfold K4 TG;by_cases h1:AJ m y x=1
 ·rw[if_pos h1,if_pos h1];have key:=Zr (xs:=Ae m) (ys:=Al m) (g:=m) i6 (by rw[aj,ah];exact hS) (y:=y) (x:=x) J J h1;rw[aj,ah]at key;rw[←key,h1];constructor
  ·rintro⟨h,hh,aK⟩;have:=AS hh.1 y x;exact⟨h,hh,J⟩
  ·rintro⟨h,hh,h0⟩;exact⟨h,hh,J⟩
 ·have h0:AJ m y x=0:=J;rw[if_neg h1,if_neg h1];have key:=Z4 (xs:=Ae m) (ys:=Al m) (g:=m) i6 (by rw[aj,ah];exact hS) (y:=y) (x:=x) J J h0;rw[aj,ah]at key;rw[←key,h0];constructor
  ·rintro⟨h,hh,aK⟩;have:=AS hh.1 y x;exact⟨h,hh,J⟩
  ·rintro⟨h,hh,h0⟩;exact⟨h,hh,J⟩
theorem A1D{x:Nat}(hy:y<r)(hx:x<c):K4 r m y x<r+c∧TG r m y x<r+c:=by
 unfold K4 TG
 split<;>omega

/- Base. -/
import Derived.Test.YthmocomfjgmjoaaGreatDoorQ03
namespace Go.Proofs.YthmocomfjgmjoaaGreatDoor
def Sw.code(s:Sw):Nat:=s.y1*512+s.y2*64+s.x1*8+s.x2
def Mb:List Sw→List Sw→Prop
 |s::p,t::q=>Sw.code s<Sw.code t∨(s=t∧Mb p q)
 |_,_=>False
def slt(p q:List Sw):Prop:=p.length<q.length∨(p.length=q.length∧Mb p q)
def sle(p q:List Sw):Prop:=p=q∨slt p q
theorem O8:∀p,¬Mb p p
 |[],h=>h
 |s::p,h=>h.elim (fun h=>by omega) fun h=>O8 p h.2
theorem Q0:∀{p q r},Mb p q→Mb q r→Mb p r
 |[],_,_,h,_=>h.elim
 |_::_,[],_,h,_=>h.elim
 |_::_,_::_,[],_,h=>h.elim
 |s::p,t::q,u::r,h1,h2=>by
  rcases h1 with h1|⟨rfl,h1⟩
  ·rcases h2 with h2|⟨rfl,-⟩
   ·exact .inl (by omega)
   ·exact .inl h1
  ·rcases h2 with h2|⟨rfl,h2⟩
   ·exact .inl h2
   ·exact .inr ⟨rfl,Q0 h1 h2⟩
theorem A0A(p:List Sw):¬slt p p:=fun h=>h.elim (fun h=>by omega) fun h=>O8 p h.2
theorem PF{p q r:List Sw}(h1:slt p q)(h2:slt q r):slt p r:=by
 rcases h1 with h1|⟨e1,h1⟩<;>rcases h2 with h2|⟨e2,h2⟩
 ·exact .inl (by omega)
 ·exact .inl (by omega)
 ·exact .inl (by omega)
 ·exact .inr ⟨by omega,Q0 h1 h2⟩
theorem A2A{p q r:List Sw}(h1:sle p q)(h2:sle q r):sle p r:=by
 rcases h1 with rfl|h1
 ·exact h2
 ·rcases h2 with rfl|h2
  ·exact .inr h1
  ·exact .inr (PF h1 h2)
theorem Vp{p q:List Sw}(h1:sle p q)(h2:sle q p):p=q:=by
 rcases h1 with h1|h1
 ·exact h1
 ·rcases h2 with h2|h2
  ·exact h2.symm
  ·exact(A0A p (PF h1 h2)).elim
theorem SD:∀{p q:List Sw}(s t:Sw),Mb p q→Mb (p++[s]) (q++[t])
 |[],_,_,_,h=>h.elim
 |_::_,[],_,_,h=>h.elim
 |_::_,_::_,s,t,h=>h.elim (fun h=>.inl h) fun h=>.inr ⟨h.1,SD s t h.2⟩
theorem SC{p q:List Sw}(s t:Sw)(h:slt p q):slt (p++[s]) (q++[t]):=by
 rcases h with h|⟨e,h⟩
 ·exact .inl (by simp;omega)
 ·exact .inr ⟨by simp[e],SD s t h⟩
theorem ZJ(p:List Sw)(s t:Sw)(h:Sw.code s<Sw.code t):Mb (p++[s]) (p++[t]):=by
 induction p with
 |nil=>
  rw[List.nil_append,List.nil_append,Mb];exact Or.inl h
 |cons a p ih=>
  rw[List.cons_append,List.cons_append,Mb];exact Or.inr ⟨rfl,ih⟩
theorem A3a(p:List Sw){s t:Sw}(h:Sw.code s<Sw.code t):slt (p++[s]) (p++[t]):=.inr ⟨by simp,ZJ p s t h⟩
theorem A3s{p q:List Sw}(s:Sw)(h:sle p q):sle (p++[s]) (q++[s]):=by
 rcases h with rfl|h
 ·exact .inl rfl
 ·exact .inr (SC s s h)
theorem A4S(p:List Sw)(s:Sw):slt [] (p++[s]):=.inl (by simp)
def CK(r c:Nat):List (List Int)→List Sw→List (List Int)→Prop
 |g,[],h=>g=h
 |g,s::p,h=>CB r c g s∧CK r c (AQ g s) p h
theorem Ds{r c:Nat}:∀{p:List Sw}{g h:List (List Int)}{s:Sw},CK r c g (p++[s]) h↔∃x,CK r c g p x∧CB r c x s∧AQ x s=h
 |[],g,h,s=>by
  simp only[List.nil_append,CK];exact⟨fun⟨a,b⟩=>⟨g,rfl,a,b⟩,fun⟨x,e,a,b⟩=>by subst e;exact⟨a,b⟩⟩
 |t::p,g,h,s=>by
  simp only[List.cons_append,CK];constructor
  ·rintro⟨a,b⟩;obtain⟨x,h1,h2⟩:=Ds.1 b;exact⟨x,⟨a,h1⟩,h2⟩
  ·rintro⟨x,⟨a,h1⟩,h2⟩;exact⟨a,Ds.2 ⟨x,h1,h2⟩⟩
theorem CK.shape{r c:Nat}:∀{p:List Sw}{g h:List (List Int)},CK r c g p h→Ac r c g→Ac r c h
 |[],_,_,h,hs=>by cases h;exact hs
 |_::_,_,_,h,hs=>h.2.shape (Ci hs h.1)
theorem CK.sums{xs ys:List Int}{r c:Nat}:∀{p:List Sw}{g h:List (List Int)},CK r c g p h→CY xs ys r c g→CY xs ys r c h
 |[],_,_,h,hs=>by cases h;exact hs
 |_::_,_,_,h,hs=>h.2.sums (DI hs h.1)
theorem CK.rev{r c:Nat}:∀{p:List Sw}{g h:List (List Int)},CK r c g p h→Ac r c g→CK r c h p.reverse g
 |[],_,_,h,_=>h.symm
 |s::p,g,h,hp,hs=>by
  have h1:=hp.2.rev (Ci hs hp.1);rw[List.reverse_cons];exact Ds.2 ⟨_,h1,Iu hs hp.1,FU hs hp.1⟩
theorem Ih.path{r c:Nat}{g h:List (List Int)}(hj:Ih r c g h):∃p,CK r c g p h:=by
 induction hj with
 |refl=>exact⟨[],rfl⟩
 |@step b s _ hs ih=>
  obtain⟨p,hp⟩:=ih;exact⟨p++[s],Ds.2 ⟨_,hp,hs,rfl⟩⟩
def V1(r c:Nat):List Sw:=(List.range r).flatMap fun a=>(List.range r).flatMap fun b=>if a<b then(List.range c).flatMap fun x=>(List.range c).flatMap fun y=>if x<y then[(a,b,x,y)] else[] else[]
def AX(r c:Nat)(g:List (List Int)):List Sw:=(V1 r c).filter fun s=>decide (CB r c g s)
theorem A1J{r c:Nat}{s:Sw}:s∈V1 r c↔s.y1<s.y2∧s.y2<r∧s.x1<s.x2∧s.x2<c:=by
 obtain⟨a,b,x,y⟩:=s;show _↔a<b∧b<r∧x<y∧y<c;unfold V1;simp only[List.mem_flatMap,List.mem_range];constructor
 ·rintro⟨a',ha,b',hb,h⟩
  split at h
  ·rename_i gx
   simp only[List.mem_flatMap,List.mem_range] at h;obtain⟨x',hx,y',hy,h⟩:=h
   split at h
   ·rename_i cf
    simp only[List.mem_singleton,Prod.mk.injEq] at h;obtain⟨rfl,rfl,rfl,rfl⟩:=h;exact⟨gx,hb,cf,hy⟩
   ·cases h
  ·cases h
 ·rintro⟨h1,h2,h3,h4⟩;refine⟨a,by omega,b,h2,?_⟩;rw[if_pos h1];simp only[List.mem_flatMap,List.mem_range];refine⟨x,by omega,y,h4,?_⟩;rw[if_pos h3];simp
theorem CZ{r c:Nat}{g:List (List Int)}{s:Sw}:s∈AX r c g↔CB r c g s:=by
 unfold AX;rw[List.mem_filter,A1J,decide_eq_true_eq];exact⟨fun h=>h.2,fun h=>⟨⟨h.1,h.2.1,h.2.2.1,h.2.2.2.1⟩,h⟩⟩
theorem VU:∀r,r<6→∀c,c<6→(V1 r c).Pairwise (fun s t=>Sw.code s<Sw.code t):=by decide+kernel
theorem Gi{r c:Nat}(hr:r≤5)(hc:c≤5)(g:List (List Int)):(AX r c g).Pairwise (fun s t=>Sw.code s<Sw.code t):=(VU r (by omega) c (by omega)).filter _
abbrev DW:=List (List Int)×List Sw
def Ql(e:DW)(acc:List DW)(s:Sw):List DW:=if acc.any (fun x=>decide (x.1=AQ e.1 s)) then acc else acc++[(AQ e.1 s,e.2++[s])]
structure Jv(r c:Nat)(m:List (List Int))(j:Nat)(acc:List DW):Prop where
 zero:acc[0]? =some (m,[])
 sorted:acc.Pairwise (fun a b=>slt a.2 b.2)
 path:∀e∈acc,CK r c m e.2 e.1
 nodup:acc.Pairwise (fun a b=>a.1≠b.1)
 done:∀i(e:DW),i<j→acc[i]? =some e→∀s,CB r c e.1 s→∃e'∈acc,e'.1=AQ e.1 s∧sle e'.2 (e.2++[s])
 next:∀e:DW,acc[j]? =some e→∀x∈acc,∀s,slt x.2 (e.2++[s])
 len:∀i(e:DW),acc[i]? =some e→e.2.length≤i
theorem SU(r c:Nat)(m:List (List Int)):Jv r c m 0 [(m,[])]:=
 ⟨rfl,List.pairwise_singleton _ _,by simp[CK],List.pairwise_singleton _ _,fun i e h=>by omega,fun e he x hx s=>by simp at hx;subst hx;exact A4S _ s,fun i e h=>by
   cases i with
   |zero=>simp at h;subst h;simp
   |succ i=>simp at h⟩
structure Li(r c:Nat)(m:List (List Int))(j:Nat)(e0:DW)(ss1:List Sw)(acc:List DW):Prop where
 zero:acc[0]? =some (m,[])
 at0:acc[j]? =some e0
 sorted:acc.Pairwise (fun a b=>slt a.2 b.2)
 path:∀e∈acc,CK r c m e.2 e.1
 nodup:acc.Pairwise (fun a b=>a.1≠b.1)
 done:∀i(e:DW),i<j→acc[i]? =some e→∀s,CB r c e.1 s→∃e'∈acc,e'.1=AQ e.1 s∧sle e'.2 (e.2++[s])
 doneJ:∀s∈ss1,∃e'∈acc,e'.1=AQ e0.1 s∧sle e'.2 (e0.2++[s])
 below:∀x∈acc,(∀s,slt x.2 (e0.2++[s]))∨∃s1∈ss1,x.2=e0.2++[s1]
 len:∀i(e:DW),acc[i]? =some e→e.2.length≤i
theorem Jv.mid{r c:Nat}{m:List (List Int)}{j:Nat}{acc:List DW}(h:Jv r c m j acc){e0:DW}(he:acc[j]? =some e0):Li r c m j e0 [] acc:=
 ⟨h.zero,he,h.sorted,h.path,h.nodup,h.done,(fun s hs=>by cases hs),fun x hx=>.inl (h.next e0 he x hx),h.len⟩
theorem Li.step{r c:Nat}{m:List (List Int)}{j:Nat}{e0:DW}{ss1:List Sw}{acc:List DW}(h:Li r c m j e0 ss1 acc){s:Sw}(hs:CB r c e0.1 s)(aH:∀s1∈ss1,Sw.code s1<Sw.code s):Li r c m j e0 (ss1++[s]) (Ql e0 acc s):=by
 have hj:=(List.getElem?_eq_some_iff.1 h.at0).1;have aA:∀x∈acc,slt x.2 (e0.2++[s]):=fun x hx=>by
  rcases h.below x hx with h1|⟨s1,h1,h2⟩
  ·exact h1 s
  ·rw[h2];exact A3a _ (aH s1 h1)
 unfold Ql;cases hany:acc.any (fun x=>decide (x.1=AQ e0.1 s))
 ·rw[if_neg (by simp)];have bN:∀x∈acc,x.1≠AQ e0.1 s:=fun x hx e=>by
   rw[Bool.eq_false_iff] at hany;exact hany (List.any_eq_true.2 ⟨x,hx,by simpa using e⟩)
  refine⟨?_,?_,?_,?_,?_,?_,?_,?_,?_⟩
  ·rw[List.getElem?_append_left (by omega)];exact h.zero
  ·rw[List.getElem?_append_left hj];exact h.at0
  ·rw[List.pairwise_append];exact⟨h.sorted,List.pairwise_singleton _ _,fun a ha b hb=>by simp at hb;subst hb;exact aA a ha⟩
  ·intro e he;rcases List.mem_append.1 he with he|he
   ·exact h.path e he
   ·rw[List.mem_singleton] at he;subst he;exact Ds.2 ⟨e0.1,h.path e0 (List.mem_of_getElem? h.at0),hs,rfl⟩
  ·rw[List.pairwise_append];exact⟨h.nodup,List.pairwise_singleton _ _,fun a ha b hb=>by simp at hb;subst hb;exact bN a ha⟩
  ·intro i e hi he t ht;rw[List.getElem?_append_left (by omega)] at he;obtain⟨e',h1,h2⟩:=h.done i e hi he t ht;exact⟨e',List.mem_append_left _ h1,h2⟩
  ·intro t ht;rcases List.mem_append.1 ht with ht|ht
   ·obtain⟨e',h1,h2⟩:=h.doneJ t ht;exact⟨e',List.mem_append_left _ h1,h2⟩
   ·rw[List.mem_singleton] at ht;subst ht;exact⟨_,List.mem_append_right _ (List.mem_singleton.2 rfl),rfl,.inl rfl⟩
  ·intro x hx;rcases List.mem_append.1 hx with hx|hx
   ·exact(h.below x hx).imp id fun⟨s1,h1,h2⟩=>⟨s1,List.mem_append_left _ h1,h2⟩
   ·rw[List.mem_singleton] at hx;subst hx;exact .inr ⟨s,List.mem_append_right _ (List.mem_singleton.2 rfl),rfl⟩
  ·intro i e he;by_cases hi:i<acc.length
   ·rw[List.getElem?_append_left hi] at he;exact h.len i e he
   ·have qJ:=(List.getElem?_eq_some_iff.1 he).1;rw[List.length_append,List.length_singleton] at qJ;have iS:i=acc.length:=by omega
    subst iS;rw[List.getElem?_append_right (Nat.le_refl _),Nat.sub_self] at he;simp at he;subst he;have:=h.len j e0 h.at0;simp;omega
 ·rw[if_pos rfl];obtain⟨x,hx,xh⟩:=List.any_eq_true.1 hany;refine⟨h.zero,h.at0,h.sorted,h.path,h.nodup,h.done,fun t ht=>?_,fun y hy=>(h.below y hy).imp id fun⟨s1,h1,h2⟩=>⟨s1,List.mem_append_left _ h1,h2⟩,h.len⟩;rcases List.mem_append.1 ht with ht|ht
  ·exact h.doneJ t ht
  ·rw[List.mem_singleton] at ht;subst ht;exact⟨x,hx,by simpa using xh,.inr (aA x hx)⟩
theorem Li.last{r c:Nat}{m:List (List Int)}{j:Nat}{e0:DW}{acc:List DW}(h:Li r c m j e0 (AX r c e0.1) acc):Jv r c m (j+1) acc:=by
 refine⟨h.zero,h.sorted,h.path,h.nodup,fun i e hi he s hs=>?_,fun e he x hx s=>?_,h.len⟩
 ·by_cases hij:i=j
  ·subst hij;rw[h.at0] at he;obtain rfl:=Option.some.inj he;exact h.doneJ s (CZ.2 hs)
  ·exact h.done i e (by omega) he s hs
 ·have aH:slt e0.2 e.2:=by
   have hs:=h.sorted;rw[List.pairwise_iff_getElem] at hs;obtain⟨h1,e1⟩:=List.getElem?_eq_some_iff.1 h.at0;obtain⟨h2,e2⟩:=List.getElem?_eq_some_iff.1 he;have:=hs j (j+1) h1 h2 (by omega);rwa[e1,e2] at this
  rcases h.below x hx with h1|⟨s1,-,h2⟩
  ·exact PF (h1 s) (SC s s aH)
  ·rw[h2];exact SC s1 s aH
theorem Jv.min{r c:Nat}{m:List (List Int)}{j:Nat}{acc:List DW}(h:Jv r c m j acc)(hj:acc.length≤j):∀(n:Nat)(q:List Sw)(y:List (List Int)),q.length=n→CK r c m q y→∃e∈acc,e.1=y∧sle e.2 q:=by
 intro n;induction n with
 |zero=>
  intro q y hq hp;have:q=[]:=List.eq_nil_of_length_eq_zero hq;subst this;exact⟨(m,[]),List.mem_of_getElem? h.zero,hp,.inl rfl⟩
 |succ n ih=>
  intro q y hq hp;have aO:q≠[]:=by intro e;rw[e] at hq;simp at hq
  have e:=List.dropLast_concat_getLast aO;rw[←e] at hp;obtain⟨x,h1,h2,h3⟩:=Ds.1 hp;obtain⟨e1,m1,m2,m3⟩:=ih q.dropLast x (by rw[List.length_dropLast];omega) h1;obtain⟨i,hi⟩:=List.getElem?_of_mem m1;have qJ:=(List.getElem?_eq_some_iff.1 hi).1;rw[←m2] at h2 h3;obtain⟨e',k1,k2,k3⟩:=h.done i e1 (by omega) hi _ h2;refine⟨e',k1,k2.trans h3,?_⟩;rw[←e];exact A2A k3 (A3s _ m3)
def JU(r c:Nat)(g t:List (List Int))(W:List Sw):Prop:=CK r c g W t∧∀q,CK r c g q t→sle W q
theorem JU.eq{r c:Nat}{g t:List (List Int)}{W V:List Sw}(h1:JU r c g t W)(h2:JU r c g t V):W=V:=Vp (h1.2 V h2.1) (h2.2 W h1.1)
theorem A4O{p q:List Sw}(h:sle p q):p.length≤q.length:=by
 rcases h with rfl|h|⟨h,-⟩
 ·exact Nat.le_refl _
 ·omega
 ·omega
theorem Jv.least{r c:Nat}{m:List (List Int)}{j:Nat}{acc:List DW}(h:Jv r c m j acc)(hj:acc.length≤j){e:DW}(he:e∈acc):JU r c m e.1 e.2:=by
 refine⟨h.path e he,fun q hq=>?_⟩;obtain⟨e',h1,h2,h3⟩:=h.min hj _ q e.1 rfl hq;have:e'=e:=by
  have hn:=h.nodup;rw[List.pairwise_iff_getElem] at hn;obtain⟨i,hi,rfl⟩:=List.getElem_of_mem he;obtain⟨k,hk,rfl⟩:=List.getElem_of_mem h1;by_cases e:i=k
  ·subst e;rfl
  ·rcases Nat.lt_or_gt_of_ne e with h|h
   ·exact absurd h2.symm (hn i k hi hk h)
   ·exact absurd h2 (hn k i hk hi h)
 rw[←this];exact h3
def Ud(r c:Nat)(t g:List (List Int))(n:Nat):Prop:=(∃p,CK r c t p g∧p.length=n)∧∀q,CK r c t q g→n≤q.length
theorem Ud.eq{r c:Nat}{t g:List (List Int)}{n k:Nat}(h1:Ud r c t g n)(h2:Ud r c t g k):n=k:=by
 obtain⟨p,hp,rfl⟩:=h1.1;obtain⟨q,hq,rfl⟩:=h2.1;have:=h1.2 q hq;have:=h2.2 p hp;omega
theorem JU.far{r c:Nat}{t g:List (List Int)}{W:List Sw}(h:JU r c t g W):Ud r c t g W.length:=⟨⟨W,h.1,rfl⟩,fun q hq=>A4O (h.2 q hq)⟩
theorem A3P{r c:Nat}{t g:List (List Int)}{n k:Nat}{s:Sw}(hg:Ac r c g)(h1:Ud r c t g n)(hs:CB r c g s)(h2:Ud r c t (AQ g s) k):n≤k+1∧k≤n+1:=by
 obtain⟨p,hp,rfl⟩:=h1.1;obtain⟨q,hq,rfl⟩:=h2.1;have a:=h2.2 (p++[s]) (Ds.2 ⟨g,hp,hs,rfl⟩);have b:=h1.2 (q++[s]) (Ds.2 ⟨_,hq,Iu hg hs,FU hg hs⟩);simp at a b;omega
theorem A4p{r c:Nat}{t g:List (List Int)}(h:Ud r c t g 0):t=g:=by
 obtain⟨p,hp,hl⟩:=h.1;have:p=[]:=List.eq_nil_of_length_eq_zero hl;subst this;exact hp
theorem A3u(r c:Nat)(t:List (List Int)):Ud r c t t 0:=⟨⟨[],rfl,rfl⟩,fun _ _=>Nat.zero_le _⟩
theorem A49{r c:Nat}{t g:List (List Int)}{n:Nat}(ht:Ac r c t)(h:Ud r c t g (n+1)):∃s,CB r c g s∧∃p,CK r c t p (AQ g s)∧p.length=n:=by
 obtain⟨p,hp,hl⟩:=h.1;have aO:p≠[]:=by intro e;rw[e] at hl;simp at hl
 have e:=List.dropLast_concat_getLast aO;rw[←e] at hp;obtain⟨x,h1,h2,h3⟩:=Ds.1 hp;have hx:=h1.shape ht;refine⟨p.getLast aO,?_,p.dropLast,?_,by rw[List.length_dropLast];omega⟩
 ·rw[←h3];exact Iu hx h2
 ·rw[←h3,FU hx h2];exact h1
theorem A3C{r c:Nat}(hr:r≤5)(hc:c≤5){g:List (List Int)}{s t:Sw}(hs:CB r c g s)(ht:CB r c g t)(h:Sw.code s=Sw.code t):s=t:=by
 obtain⟨a,b,x,y⟩:=s;obtain⟨a',b',x',y'⟩:=t;obtain⟨h1,h2,h3,h4,-⟩:=hs;obtain⟨k1,k2,k3,k4,-⟩:=ht;unfold Sw.code at h;simp only[Sw.y1,Sw.y2,Sw.x1,Sw.x2] at*;have e1:a=a':=by omega
 have e2:b=b':=by omega
 have e3:x=x':=by omega
 have e4:y=y':=by omega
 rw[e1,e2,e3,e4]
inductive Md(r c:Nat)(t:List (List Int)):List (List Int)→List Sw→Prop
 |done:Md r c t t []
 |step {g:List (List Int)} {n:Nat} {s:Sw} {p:List Sw}:Ud r c t g (n+1)→CB r c g s→Ud r c t (AQ g s) n→(∀s',CB r c g s'→Sw.code s'<Sw.code s→∀k,Ud r c t (AQ g s') k→n+1≤k)→Md r c t (AQ g s) p→Md r c t g (s::p)
theorem Md.far{r c:Nat}{t g:List (List Int)}{p:List Sw}(h:Md r c t g p):Ud r c t g p.length:=by
 induction h with
 |done=>exact A3u r c t
 |step h1 _ h2 _ _ ih=>
  have:=h2.eq ih;rw[List.length_cons,←this];exact h1
theorem Md.path{r c:Nat}{t g:List (List Int)}{p:List Sw}(h:Md r c t g p):CK r c g p t:=by
 induction h with
 |done=>exact rfl
 |step _ hs _ _ _ ih=>exact⟨hs,ih⟩
theorem Md.least{r c:Nat}(hr:r≤5)(hc:c≤5){t g:List (List Int)}{p:List Sw}(hg:Ac r c g)(_:Ac r c t)(wZ:∀h,Ac r c h→(∃q,CK r c h q t)→∃k,Ud r c t h k)(h:Md r c t g p):JU r c g t p:=by
 refine⟨h.path,?_⟩;induction h with
 |done=>
  intro q hq;cases q with
  |nil=>exact .inl rfl
  |cons s q=>exact .inr (.inl (by simp))
 |@step g n s p h1 hs h2 hmin hd ih=>
  intro q hq;have hl:n+1≤q.length:=by
   have:=h1.2 q.reverse (hq.rev hg);simpa using this
  have qp:(s::p).length=n+1:=by
   have:=(Md.step h1 hs h2 hmin hd).far.eq h1;exact this
  by_cases fE:q.length=n+1
  ·cases q with
   |nil=>simp at fE
   |cons s' q=>
    have fo:q.length=n:=by simpa using fE
    have mE:=Ci hg hq.1;obtain⟨k,hk⟩:=wZ _ mE ⟨q,hq.2⟩;have p7:k≤n:=by
     have:=hk.2 q.reverse (hq.2.rev mE);simp at this;omega
    have wB:¬Sw.code s'<Sw.code s:=fun aH=>by
     have:=hmin s' hq.1 aH k hk;omega
    by_cases he:Sw.code s'=Sw.code s
    ·have es:=A3C hr hc hq.1 hs he;subst es;rcases ih (Ci hg hs) q hq.2 with e|e|⟨e1,e2⟩
     ·rw[e];exact .inl rfl
     ·exact .inr (.inl (by simpa using e))
     ·exact .inr (.inr ⟨by simp[e1],.inr ⟨rfl,e2⟩⟩)
    ·exact .inr (.inr ⟨by rw[qp,fE],.inl (by omega)⟩)
  ·exact .inr (.inl (by rw[qp];omega))
theorem Jv.bound{xs ys:List Int}{m:List (List Int)}{j:Nat}{acc:List DW}(aD:AF xs ys=true)(hm:CY xs ys xs.length ys.length m)(h:Jv xs.length ys.length m j acc):acc.length≤(Bi xs ys).length:=
 Me (fun e:DW=>e.1) acc (Bi xs ys) h.nodup fun e he=>(Dp aD e.1).2 ((h.path e he).sums hm)
theorem Li.bound{xs ys:List Int}{m:List (List Int)}{j:Nat}{e0:DW}{ss:List Sw}{acc:List DW}(aD:AF xs ys=true)(hm:CY xs ys xs.length ys.length m)(h:Li xs.length ys.length m j e0 ss acc):acc.length≤(Bi xs ys).length:=
 Me (fun e:DW=>e.1) acc (Bi xs ys) h.nodup fun e he=>(Dp aD e.1).2 ((h.path e he).sums hm)
theorem Jv.found{xs ys:List Int}{r c:Nat}{m g:List (List Int)}{j:Nat}{acc:List DW}(h:Jv r c m j acc)(hj:acc.length≤j)(hm:CY xs ys r c m)(hg:CY xs ys r c g):∃e∈acc,e.1=g:=by
 obtain⟨p,hp⟩:=(QZ hm hg).path;obtain⟨e,h1,h2,-⟩:=h.min hj _ p g rfl hp;exact⟨e,h1,h2⟩
def TO(r c:Nat)(m:List (List Int))(a b x y:Nat):List Sw:=((List.range y).map fun y'=>((a,b,x,y'):Sw)).filter fun s=>decide (CB r c m s)
def sw3(r c:Nat)(m:List (List Int))(a b x:Nat):List Sw:=(List.range x).flatMap fun x'=>TO r c m a b x' c
def Zi(r c:Nat)(m:List (List Int))(a b:Nat):List Sw:=(List.range b).flatMap fun b'=>sw3 r c m a b' c
def ZQ(r c:Nat)(m:List (List Int))(a:Nat):List Sw:=(List.range a).flatMap fun a'=>Zi r c m a' r
theorem OR{r c:Nat}{m:List (List Int)}{a b x y:Nat}:TO r c m a b x (y+1)=TO r c m a b x y++(if CB r c m (a,b,x,y) then[(a,b,x,y)] else[]):=by
 unfold TO;rw[List.range_succ,List.map_append,List.filter_append];by_cases h:CB r c m (a,b,x,y)<;>simp[h]
theorem Yq{r c:Nat}{m:List (List Int)}{a b x:Nat}:TO r c m a b x (x+1)=[]:=by
 unfold TO;rw[List.filter_eq_nil_iff];intro s hs;obtain⟨y,hy,rfl⟩:=List.mem_map.1 hs;rw[List.mem_range] at hy;rw[decide_eq_true_eq];intro h;have h3:x<y:=h.2.2.1;omega
theorem XL{r c:Nat}{m:List (List Int)}{a b:Nat}:sw3 r c m a b 0=[]:=rfl
theorem Ya{r c:Nat}{m:List (List Int)}{a b x:Nat}:sw3 r c m a b (x+1)=sw3 r c m a b x++TO r c m a b x c:=by
 unfold sw3;rw[List.range_succ,List.flatMap_append];simp
theorem A0Z{r c:Nat}{m:List (List Int)}{a b:Nat}(h:b≤a)(x:Nat):sw3 r c m a b x=[]:=by
 unfold sw3;rw[List.flatMap_eq_nil_iff];intro x' _;unfold TO;rw[List.filter_eq_nil_iff];intro s hs;obtain⟨y,hy,rfl⟩:=List.mem_map.1 hs;rw[decide_eq_true_eq];intro hk;have h1:a<b:=hk.1;omega
theorem Z6{r c:Nat}{m:List (List Int)}{a:Nat}:Zi r c m a (a+1)=[]:=by
 unfold Zi;rw[List.flatMap_eq_nil_iff];intro b hb;rw[List.mem_range] at hb;exact A0Z (by omega) _
theorem Xp{r c:Nat}{m:List (List Int)}{a b:Nat}:Zi r c m a (b+1)=Zi r c m a b++sw3 r c m a b c:=by
 unfold Zi;rw[List.range_succ,List.flatMap_append];simp
theorem Xh{r c:Nat}{m:List (List Int)}{a:Nat}:ZQ r c m (a+1)=ZQ r c m a++Zi r c m a r:=by
 unfold ZQ;rw[List.range_succ,List.flatMap_append];simp
theorem GT{α β:Type}(p:β→Bool)(f:α→List β):∀l:List α,(l.flatMap f).filter p=l.flatMap fun x=>(f x).filter p
 |[]=>rfl
 |a::l=>by rw[List.flatMap_cons,List.flatMap_cons,List.filter_append,GT p f l]
theorem KD{α β:Type}{f g:α→List β}:∀{l:List α},(∀x∈l,f x=g x)→l.flatMap f=l.flatMap g
 |[],_=>rfl
 |a::l,h=>by rw[List.flatMap_cons,List.flatMap_cons,h a (by simp),KD fun x hx=>h x (by simp[hx])]
theorem A19(r c:Nat)(m:List (List Int)):ZQ r c m r=AX r c m:=by
 unfold AX V1 ZQ;rw[GT];refine KD fun a _=>?_;unfold Zi;rw[GT];refine KD fun b _=>?_;by_cases gx:a<b
 ·rw[if_pos gx,GT];unfold sw3;refine KD fun x _=>?_;unfold TO;rw[GT];induction List.range c with
  |nil=>rfl
  |cons y l ih=>
   rw[List.map_cons,List.flatMap_cons,List.filter_cons,ih];by_cases cf:x<y
   ·rw[if_pos cf];by_cases h:CB r c m (a,b,x,y)<;>simp[h]
   ·rw[if_neg cf];have h:¬CB r c m (a,b,x,y):=fun h=>cf h.2.2.1;simp[h]
 ·rw[if_neg gx,A0Z (by omega)];rfl
theorem VS{r c:Nat}{R C:Nat→Int}{l u x:Nat→Nat→Int}(hR:∀i,i<r→rs c (fun j=>x i j)=R i)(hC:∀j,j<c→rs r (fun i=>x i j)=C j)(A B:Nat→Bool):
  Bn r c R C l u A B=rs r (fun i=>rs c (fun j=>gc (A i) (B j) (l i j) (u i j)+(if A i then x i j else 0)-(if B j then x i j else 0))):=by
 unfold Bn;have e1:rs r (fun i=>if A i then R i else 0)=rs r (fun i=>rs c (fun j=>if A i then x i j else 0)):=AN fun i hi=>by
  cases A i
  ·simp[CN]
  ·simp[hR i hi]
 have e2:rs c (fun j=>if B j then C j else 0)=rs r (fun i=>rs c (fun j=>if B j then x i j else 0)):=by
  rw[QM];exact AN fun j hj=>by
   cases B j
   ·simp[CN]
   ·simp[hC j hj]
 rw[e1,e2];have e3:rs r (fun i=>rs c (fun j=>gc (A i) (B j) (l i j) (u i j)+(if A i then x i j else 0)-(if B j then x i j else 0)))=
   rs r (fun i=>rs c (fun j=>gc (A i) (B j) (l i j) (u i j))+rs c (fun j=>if A i then x i j else 0)-rs c (fun j=>if B j then x i j else 0)):=AN fun i _=>by
  rw[ER,Dx]
 rw[e3,ER,Dx];omega
theorem M1{n:Nat}{f:Nat→Int}(h:∀i,i<n→f i≤0)(hz:0≤rs n f):∀i,i<n→f i=0:=by
 intro i hi;have h1:=Kw hi (f:=fun i=>0-f i) (fun k hk=>by have:=h k hk;omega);rw[ER,CN] at h1;have:=h i hi;omega
def Qw(r:Nat)(g:List (List Int))(v w:Nat):Prop:=(v<r∧r≤w∧Al g v (w-r)=1)∨(r≤v∧w<r∧Al g w (v-r)=0)
instance(r:Nat)(g:List (List Int))(v w:Nat):Decidable (Qw r g v w):=by unfold Qw;infer_instance
inductive CW(r c:Nat)(g:List (List Int))(a:Nat):Nat→Prop
 |refl:CW r c g a a
 |step {v w:Nat}:CW r c g a v→Qw r g v w→w<r+c→CW r c g a w
theorem CW.lt{r c a v:Nat}{g:List (List Int)}(h:CW r c g a v)(ha:a<r+c):v<r+c:=by
 cases h with
 |refl=>exact ha
 |step _ _ hw=>exact hw
theorem CW.closed{r c a v:Nat}{g:List (List Int)}{S:Nat→Prop}(ha:S a)(be:a<r+c)(hS:∀v w,v<r+c→w<r+c→S v→Qw r g v w→S w)(h:CW r c g a v):S v:=by
 induction h with
 |refl=>exact ha
 |step h1 he hw ih=>exact hS _ _ (h1.lt be) hw ih he
theorem A5i{xs ys:List Int}{r c:Nat}{g:List (List Int)}(hg:CY xs ys r c g){A B:Nat→Bool}(hz:0≤Bn r c (Td xs) (Td ys) (fun _ _=>0) (fun _ _=>1) A B):
  ∀i j,i<r→j<c→(A i=true→B j=false→Al g i j=1)∧(A i=false→B j=true→Al g i j=0):=by
 obtain⟨gs,gr,gcl⟩:=E0.1 hg;rw[VS (x:=fun i j=>Al g i j) gr gcl] at hz;have key:∀i j,gc (A i) (B j) 0 1+(if A i then Al g i j else 0)-(if B j then Al g i j else 0)≤0:=by
  intro i j;have:=AE gs i j;cases A i<;>cases B j<;>simp[gc]<;>omega
 have h1:=M1 (fun i _=>by
  have:=Fa (n:=c) (g:=fun _=>0) fun j _=>key i j;rwa[CN] at this) hz
 intro i j hi hj;have h2:=M1 (fun j _=>key i j) (by rw[h1 i hi];exact Int.le_refl _) j hj;refine⟨fun ha hb=>?_,fun ha hb=>?_⟩
 ·rw[ha,hb] at h2;simp[gc] at h2;omega
 ·rw[ha,hb] at h2;simp[gc] at h2;omega
theorem U9{r c i0 j0:Nat}(hi:i0<r)(hj:j0<c)(R C:Nat→Int)(l u:Nat→Nat→Int)(v:Int)(A B:Nat→Bool):
  Bn r c R C l (Er u i0 j0 v) A B=Bn r c R C l u A B+if A i0&&!B j0 then u i0 j0-v else 0:=by
 unfold Bn;have h1:=Jk hi (f:=fun i=>rs c (fun j=>gc (A i) (B j) (l i j) (Er u i0 j0 v i j))) (g:=fun i=>rs c (fun j=>gc (A i) (B j) (l i j) (u i j))) (fun k _ aO=>AN fun j _=>by simp only[Er];rw[if_neg (fun e=>aO e.1)]);have h2:=Jk hj (f:=fun j=>gc (A i0) (B j) (l i0 j) (Er u i0 j0 v i0 j)) (g:=fun j=>gc (A i0) (B j) (l i0 j) (u i0 j)) (fun k _ aO=>by simp only[Er];rw[if_neg (fun e=>aO e.2)]);rw[h1,h2];simp only[Er,and_self,if_true];cases A i0<;>cases B j0<;>simp[gc]<;>omega
theorem Uk{r c i0 j0:Nat}(hi:i0<r)(hj:j0<c)(R C:Nat→Int)(l u:Nat→Nat→Int)(v:Int)(A B:Nat→Bool):
  Bn r c R C (Er l i0 j0 v) u A B=Bn r c R C l u A B+if B j0&&!A i0 then v-l i0 j0 else 0:=by
 unfold Bn;have h1:=Jk hi (f:=fun i=>rs c (fun j=>gc (A i) (B j) (Er l i0 j0 v i j) (u i j))) (g:=fun i=>rs c (fun j=>gc (A i) (B j) (l i j) (u i j))) (fun k _ aO=>AN fun j _=>by simp only[Er];rw[if_neg (fun e=>aO e.1)]);have h2:=Jk hj (f:=fun j=>gc (A i0) (B j) (Er l i0 j0 v i0 j) (u i0 j)) (g:=fun j=>gc (A i0) (B j) (l i0 j) (u i0 j)) (fun k _ aO=>by simp only[Er];rw[if_neg (fun e=>aO e.2)]);rw[h1,h2];simp only[Er,and_self,if_true];cases A i0<;>cases B j0<;>simp[gc]<;>omega
open Classical in
theorem A0H{xs ys:List Int}{g:List (List Int)}(hs:Ay xs=Ay ys)(hg:CY xs ys xs.length ys.length g){y x:Nat}(hy:y<xs.length)(hx:x<ys.length)(_:Al g y x=1):
  (∃h,CY xs ys xs.length ys.length h∧Al h y x=0)↔CW xs.length ys.length g (xs.length+x) y:=by
 obtain⟨gs,gr,gcl⟩:=E0.1 hg;constructor
 ·rintro⟨h,hh,h0⟩;apply Classical.byContradiction;intro hn;have eS:=AE hh.1;have h2:=Ku hh (l:=fun _ _=>0) (u:=Er (fun _ _=>1) y x 0) (fun i j _ _=>by
   simp only[Er]
   split
   ·rename_i e;rw[e.1,e.2,h0];decide
   ·exact eS i j) (fun i=>!(decide (CW xs.length ys.length g (xs.length+x) i))) (fun j=>!(decide (CW xs.length ys.length g (xs.length+x) (xs.length+j))))
  rw[U9 hy hx] at h2;have h3:0≤Bn xs.length ys.length (Td xs) (Td ys) (fun _ _=>0) (fun _ _=>1) (fun i=>!(decide (CW xs.length ys.length g (xs.length+x) i))) (fun j=>!(decide (CW xs.length ys.length g (xs.length+x) (xs.length+j)))):=by
   rw[VS (x:=fun i j=>Al g i j) gr gcl];refine Ey fun i hi=>Ey fun j hj=>?_;have b:=AE gs i j;by_cases iS:CW xs.length ys.length g (xs.length+x) i
   ·by_cases iO:CW xs.length ys.length g (xs.length+x) (xs.length+j)
    ·simp[iS,iO,gc]
    ·have hz:Al g i j=0:=by
      apply Classical.byContradiction;intro aO;exact iO (iS.step (.inl ⟨hi,Nat.le_add_right _ _,by rw[Nat.add_sub_cancel_left];omega⟩) (by omega))
     simp[iS,iO,gc,hz]
   ·by_cases iO:CW xs.length ys.length g (xs.length+x) (xs.length+j)
    ·have ho:Al g i j=1:=by
      apply Classical.byContradiction;intro aO;exact iS (iO.step (.inr ⟨Nat.le_add_right _ _,hi,by rw[Nat.add_sub_cancel_left];omega⟩) (by omega))
     simp[iS,iO,gc,ho]
    ·simp[iS,iO,gc]
  rw[show(!(decide (CW xs.length ys.length g (xs.length+x) y))&&!!(decide (CW xs.length ys.length g (xs.length+x) (xs.length+x))))=true from by simp[hn,CW.refl]] at h2;simp only[if_true] at h2;omega
 ·intro hre;rcases VP hs (l:=fun _ _=>0) (u:=Er (fun _ _=>1) y x 0) (fun i j _ _=>by simp only[Er];split<;>omega) with⟨h,hh,hb⟩|⟨A,B,hn⟩
  ·refine⟨h,hh,?_⟩;have:=hb y x hy hx;simp only[Er,and_self,if_true] at this;omega
  ·exfalso;rw[U9 hy hx] at hn;have h2:=Ku hg (l:=fun _ _=>0) (u:=fun _ _=>1) (fun i j _ _=>AE gs i j) A B;cases hA:A y
   ·rw[hA] at hn;simp at hn;omega
   have hB:B x=false:=by
    cases hB:B x
    ·rfl
    ·exfalso;rw[hA,hB] at hn;simp at hn;omega
   rw[hA,hB] at hn;simp only[Bool.not_false,Bool.and_self,if_true] at hn;have ht:=A5i hg (A:=A) (B:=B) (by omega);have hc:=hre.closed (S:=fun v=>(v<xs.length→A v=false)∧(xs.length≤v→B (v-xs.length)=false)) ⟨fun h=>by omega,fun _=>by rw[Nat.add_sub_cancel_left];exact hB⟩ (by omega) (fun v w hv hw hS he=>by
    rcases he with⟨e1,e2,e3⟩|⟨e1,e2,e3⟩
    ·refine⟨fun h=>by omega,fun _=>?_⟩;cases hb:B (w-xs.length)
     ·rfl
     ·have:=(ht v (w-xs.length) e1 (by omega)).2 (hS.1 e1) hb;omega
    ·refine⟨fun _=>?_,fun h=>by omega⟩;cases ha:A w
     ·rfl
     ·have:=(ht w (v-xs.length) e2 (by omega)).1 ha (hS.2 e1);omega)
   rw[hc.1 hy] at hA;cases hA
open Classical in
theorem A0l{xs ys:List Int}{g:List (List Int)}(hs:Ay xs=Ay ys)(hg:CY xs ys xs.length ys.length g){y x:Nat}(hy:y<xs.length)(hx:x<ys.length)(_:Al g y x=0):
  (∃h,CY xs ys xs.length ys.length h∧Al h y x=1)↔CW xs.length ys.length g y (xs.length+x):=by
 obtain⟨gs,gr,gcl⟩:=E0.1 hg;constructor
 ·rintro⟨h,hh,h0⟩;apply Classical.byContradiction;intro hn;have eS:=AE hh.1;have h2:=Ku hh (l:=Er (fun _ _=>0) y x 1) (u:=fun _ _=>1) (fun i j _ _=>by
   simp only[Er]
   split
   ·rename_i e;rw[e.1,e.2,h0];decide
   ·exact eS i j) (fun i=>!(decide (CW xs.length ys.length g y i))) (fun j=>!(decide (CW xs.length ys.length g y (xs.length+j))))
  rw[Uk hy hx] at h2;have h3:0≤Bn xs.length ys.length (Td xs) (Td ys) (fun _ _=>0) (fun _ _=>1) (fun i=>!(decide (CW xs.length ys.length g y i))) (fun j=>!(decide (CW xs.length ys.length g y (xs.length+j)))):=by
   rw[VS (x:=fun i j=>Al g i j) gr gcl];refine Ey fun i hi=>Ey fun j hj=>?_;have b:=AE gs i j;by_cases iS:CW xs.length ys.length g y i
   ·by_cases iO:CW xs.length ys.length g y (xs.length+j)
    ·simp[iS,iO,gc]
    ·have hz:Al g i j=0:=by
      apply Classical.byContradiction;intro aO;exact iO (iS.step (.inl ⟨hi,Nat.le_add_right _ _,by rw[Nat.add_sub_cancel_left];omega⟩) (by omega))
     simp[iS,iO,gc,hz]
   ·by_cases iO:CW xs.length ys.length g y (xs.length+j)
    ·have ho:Al g i j=1:=by
      apply Classical.byContradiction;intro aO;exact iS (iO.step (.inr ⟨Nat.le_add_right _ _,hi,by rw[Nat.add_sub_cancel_left];omega⟩) (by omega))
     simp[iS,iO,gc,ho]
    ·simp[iS,iO,gc]
  rw[show(!(decide (CW xs.length ys.length g y (xs.length+x)))&&!!(decide (CW xs.length ys.length g y y)))=true from by simp[hn,CW.refl]] at h2;simp only[if_true] at h2;omega
 ·intro hre;rcases VP hs (l:=Er (fun _ _=>0) y x 1) (u:=fun _ _=>1) (fun i j _ _=>by simp only[Er];split<;>omega) with⟨h,hh,hb⟩|⟨A,B,hn⟩
  ·refine⟨h,hh,?_⟩;have:=hb y x hy hx;simp only[Er,and_self,if_true] at this;omega
  ·exfalso;rw[Uk hy hx] at hn;have h2:=Ku hg (l:=fun _ _=>0) (u:=fun _ _=>1) (fun i j _ _=>AE gs i j) A B;cases hB:B x
   ·rw[hB] at hn;simp at hn;omega
   have hA:A y=false:=by
    cases hA:A y
    ·rfl
    ·exfalso;rw[hA,hB] at hn;simp at hn;omega
   rw[hA,hB] at hn;simp only[Bool.not_false,Bool.and_self,if_true] at hn;have ht:=A5i hg (A:=A) (B:=B) (by omega);have hc:=hre.closed (S:=fun v=>(v<xs.length→A v=false)∧(xs.length≤v→B (v-xs.length)=false)) ⟨fun _=>hA,fun h=>by omega⟩ (by omega) (fun v w hv hw hS he=>by
    rcases he with⟨e1,e2,e3⟩|⟨e1,e2,e3⟩
    ·refine⟨fun h=>by omega,fun _=>?_⟩;cases hb:B (w-xs.length)
     ·rfl
     ·have:=(ht v (w-xs.length) e1 (by omega)).2 (hS.1 e1) hb;omega
    ·refine⟨fun _=>?_,fun h=>by omega⟩;cases ha:A w
     ·rfl
     ·have:=(ht w (v-xs.length) e2 (by omega)).1 ha (hS.2 e1);omega)
   have:=hc.2 (Nat.le_add_right _ _);rw[Nat.add_sub_cancel_left,hB] at this;cases this
def Lv(c:Nat)(n:Int)(g:List (List Int)):Int:=Al g (n.toNat/c) (n.toNat % c)
def C2(c:Nat)(m h:List (List Int))(cells:List Int):Bool:=cells.all fun n=>decide (Lv c n h=Lv c n m)
def C5(c:Nat)(L:List (List (List Int)))(m:List (List Int))(cells:List Int):List (List (List Int)):=L.filter fun h=>C2 c m h cells
def CD(c:Nat)(L:List (List (List Int)))(m:List (List Int))(cells:List Int):Nat:=(C5 c L m cells).length
def DD(N:Nat)(l:List Int):Prop:=l.Pairwise (fun a b=>a<b)∧∀x∈l,0≤x∧x<N
theorem OE(c:Nat)(m h:List (List Int))(cells:List Int)(n:Int):C2 c m h (cells++[n])=(C2 c m h cells&&decide (Lv c n h=Lv c n m)):=by
 simp[C2]
theorem Wz(c:Nat)(m:List (List Int))(cells:List Int):C2 c m m cells=true:=by
 unfold C2;rw[List.all_eq_true];intro n _;simp
theorem Xx{c:Nat}{m h:List (List Int)}{a b:List Int}(gx:∀x,x∈a↔x∈b):C2 c m h a=C2 c m h b:=by
 unfold C2;rw[Bool.eq_iff_iff,List.all_eq_true,List.all_eq_true];exact⟨fun h x hx=>h x ((gx x).2 hx),fun h x hx=>h x ((gx x).1 hx)⟩
theorem WL{c:Nat}{L:List (List (List Int))}{m:List (List Int)}{a b:List Int}(gx:∀x,x∈a↔x∈b):CD c L m a=CD c L m b:=by
 unfold CD C5;rw[show(fun h=>C2 c m h a)=fun h=>C2 c m h b from funext fun h=>Xx gx]
theorem LB{c:Nat}{L:List (List (List Int))}{m:List (List Int)}(hm:m∈L)(cells:List Int):1≤CD c L m cells:=by
 have:m∈C5 c L m cells:=List.mem_filter.2 ⟨hm,Wz c m cells⟩;exact List.length_pos_of_mem this
theorem MY(c:Nat)(L:List (List (List Int)))(m:List (List Int))(cells:List Int)(n:Int):C5 c L m (cells++[n])=(C5 c L m cells).filter fun h=>decide (Lv c n h=Lv c n m):=by
 unfold C5;rw[List.filter_filter]
 congr 1
 funext h
 rw[OE,Bool.and_comm]
theorem A1Z{α:Type}(p:α→Bool){l:List α}{x:α}(hx:x∈l)(hp:p x=false):(l.filter p).length<l.length:=by
 apply Classical.byContradiction;intro hn;have h1:=List.length_filter_le p l;have h2:(l.filter p).length=l.length:=by omega
 have h3:=List.length_filter_eq_length_iff.1 h2 x hx;rw[hp] at h3;cases h3
theorem A1S{r c:Nat}(hc:1≤c){g h:List (List Int)}(hg:Ac r c g)(hh:Ac r c h)(aO:g≠h):∃n:Nat,n<r*c∧Lv c n g≠Lv c n h:=by
 apply Classical.byContradiction;intro hn;apply aO;refine hg.ext hh fun i j hi hj=>?_;show Al g i j=Al h i j;apply Classical.byContradiction;intro hd;have aH:i*c+j<r*c:=by
  have:(i+1)*c≤r*c:=Nat.mul_le_mul_right c hi;rw[Nat.succ_mul] at this;omega
 refine hn ⟨i*c+j,aH,?_⟩;unfold Lv;rw[Int.toNat_natCast,show(i*c+j) /c=i from by rw[Nat.mul_comm,Nat.mul_add_div (by omega),Nat.div_eq_of_lt hj,Nat.add_zero],show(i*c+j) % c=j from by rw[Nat.mul_comm,Nat.mul_add_mod,Nat.mod_eq_of_lt hj]];exact hd
theorem A2S{r c:Nat}(hc:1≤c){L:List (List (List Int))}{m:List (List Int)}(gT:L.Pairwise (fun a b=>a≠b))(hL:∀g∈L,Ac r c g)(hm:m∈L){cells:List Int}(h:1<CD c L m cells):∃n:Nat,n<r*c∧CD c L m (cells++[(n:Int)])<CD c L m cells:=by
 have bR:∃g∈C5 c L m cells,g≠m:=by
  apply Classical.byContradiction;intro hn;have we:(C5 c L m cells).Pairwise (fun a b=>a≠b):=gT.filter _;have aR:∀g∈C5 c L m cells,g=m:=fun g hg=>Classical.byContradiction fun aO=>hn ⟨g,hg,aO⟩;unfold CD at h;rw[List.pairwise_iff_getElem] at we;exact we 0 1 (by omega) h (by omega) ((aR _ (List.getElem_mem _)).trans (aR _ (List.getElem_mem _)).symm)
 obtain⟨g,hg,aO⟩:=bR;have hgL:=(List.mem_filter.1 hg).1;obtain⟨n,hn,hd⟩:=A1S hc (hL g hgL) (hL m hm) aO;refine⟨n,hn,?_⟩;unfold CD;rw[MY];exact A1Z _ hg (by simpa using hd)
theorem A50{c:Nat}{L:List (List (List Int))}{m:List (List Int)}{cells:List Int}{n:Int}(hn:n∈cells):CD c L m (cells++[n])=CD c L m cells:=
 WL fun x=>by
  rw[List.mem_append,List.mem_singleton];exact⟨fun h=>h.elim id fun e=>by rw[e];exact hn,.inl⟩
def D3(f:Nat→Nat):Nat→Nat
 |0=>0
 |n+1=>if n=0 then 0 else if f n<f (D3 f n) then n else D3 f n
theorem Ly(f:Nat→Nat):∀n,1≤n→D3 f n<n∧∀k,k<n→f (D3 f n)≤f k:=by
 intro n;induction n with
 |zero=>intro h;omega
 |succ n ih=>
  intro _;rw[D3];by_cases h0:n=0
  ·rw[if_pos h0];exact⟨by omega,fun k hk=>by rw[show k=0 by omega];exact Nat.le_refl _⟩
  ·rw[if_neg h0];obtain⟨h1,h2⟩:=ih (by omega)
   split
   ·exact⟨by omega,fun k hk=>by
     by_cases e:k=n
     ·rw[e];exact Nat.le_refl _
     ·have:=h2 k (by omega);omega⟩
   ·exact⟨by omega,fun k hk=>by
     by_cases e:k=n
     ·rw[e];omega
     ·exact h2 k (by omega)⟩
theorem Kg(f:Nat→Nat):D3 f 1=0:=by rw[D3,if_pos rfl]
theorem Jc{f:Nat→Nat}{n:Nat}(h:1≤n):D3 f (n+1)=if f n<f (D3 f n) then n else D3 f n:=by rw[D3,if_neg (by omega)]
def EX(n:Int):List Int→List Int
 |[]=>[n]
 |x::l=>if n<x then n::x::l else x::EX n l
theorem FK(n:Int):∀l:List Int,(EX n l).Perm (l++[n])
 |[]=>List.Perm.refl _
 |x::l=>by
  unfold EX
  split
  ·exact List.perm_append_comm (l₁:=[n]) (l₂:=x::l)
  ·exact List.Perm.cons x (FK n l)
theorem Y5{N:Nat}{n:Int}{l:List Int}(h:DD N l)(hn:n∉l)(h0:0≤n)(h1:n<N):DD N (EX n l):=by
 refine⟨?_,fun x hx=>?_⟩
 ·have hp:=h.1;clear h;induction l with
  |nil=>exact List.pairwise_singleton _ _
  |cons a l ih=>
   rw[List.pairwise_cons] at hp;unfold EX
   split
   ·rename_i aH
    rw[List.pairwise_cons,List.pairwise_cons];refine⟨fun b hb=>?_,hp⟩;rcases List.mem_cons.1 hb with rfl|hb
    ·exact aH
    ·have:=hp.1 b hb;omega
   ·rename_i hge
    rw[List.pairwise_cons];refine⟨fun b hb=>?_,ih (fun e=>hn (List.mem_cons_of_mem _ e)) hp.2⟩;rcases List.mem_append.1 ((FK n l).mem_iff.1 hb) with hb|hb
    ·exact hp.1 b hb
    ·rw[List.mem_singleton] at hb;have:n≠a:=fun e=>hn (by rw[e];simp);omega
 ·rcases List.mem_append.1 ((FK n l).mem_iff.1 hx) with hb|hb
  ·exact h.2 x hb
  ·rw[List.mem_singleton] at hb;omega
theorem A1D{a b:List Int}(hp:a.Perm b)(h1:a.Pairwise (fun x y=>x<y))(h2:b.Pairwise (fun x y=>x<y)):a=b:=
 Ug (fun x h=>by omega) (fun x y h k=>by omega) h1 h2 fun _=>hp.mem_iff
def C4(c N:Nat)(L:List (List (List Int)))(m:List (List Int))(cells:List Int):Nat:=D3 (fun k=>CD c L m (cells++[(k:Int)])) N
def Gf(c N:Nat)(L:List (List (List Int)))(m:List (List Int)):Nat→List Int→List Int
 |0,out=>out
 |f+1,out=>if CD c L m out≤1 then out else Gf c N L m f (EX (C4 c N L m out) out)
theorem M4{c N:Nat}{L:List (List (List Int))}{m:List (List Int)}{out:List Int}(h:CD c L m out≤1)(f:Nat):Gf c N L m f out=out:=by
 cases f with
 |zero=>rfl
 |succ f=>rw[Gf,if_pos h]
theorem LZ{c N:Nat}{L:List (List (List Int))}{m:List (List Int)}{out:List Int}(h:¬CD c L m out≤1)(f:Nat):Gf c N L m (f+1) out=Gf c N L m f (EX (C4 c N L m out) out):=by
 rw[Gf,if_neg h]
theorem Pt{r c:Nat}(hr:1≤r)(hc:1≤c){L:List (List (List Int))}{m:List (List Int)}(gT:L.Pairwise (fun a b=>a≠b))(hL:∀g∈L,Ac r c g)(hm:m∈L){cells:List Int}(d9:DD (r*c) cells)(h:¬CD c L m cells≤1):
  C4 c (r*c) L m cells<r*c∧((C4 c (r*c) L m cells:Nat):Int)∉cells∧CD c L m (cells++[((C4 c (r*c) L m cells:Nat):Int)])<CD c L m cells∧DD (r*c) (EX (C4 c (r*c) L m cells) cells)∧
  CD c L m (EX (C4 c (r*c) L m cells) cells)<CD c L m cells:=by
 have hN:1≤r*c:=Nat.mul_pos hr hc;obtain⟨h1,h2⟩:=Ly (fun k=>CD c L m (cells++[(k:Int)])) (r*c) hN;obtain⟨n,hn,aH⟩:=A2S hc gT hL hm (by omega:1<CD c L m cells);have h3:=h2 n hn;have h4:CD c L m (cells++[((C4 c (r*c) L m cells:Nat):Int)])<CD c L m cells:=Nat.lt_of_le_of_lt h3 aH;have h5:((C4 c (r*c) L m cells:Nat):Int)∉cells:=fun e=>by rw[A50 e] at h4;omega
 refine⟨h1,h5,h4,Y5 d9 h5 (by omega) (by have:C4 c (r*c) L m cells<r*c:=h1
                                         omega),?_⟩
 rw[WL (b:=cells++[((C4 c (r*c) L m cells:Nat):Int)]) fun x=>(FK _ cells).mem_iff];exact h4
theorem TH{r c:Nat}(hr:1≤r)(hc:1≤c){L:List (List (List Int))}{m:List (List Int)}(gT:L.Pairwise (fun a b=>a≠b))(hL:∀g∈L,Ac r c g)(hm:m∈L):∀(f:Nat)(cells:List Int),DD (r*c) cells→CD c L m cells≤f+1→
  DD (r*c) (Gf c (r*c) L m f cells)∧CD c L m (Gf c (r*c) L m f cells)=1:=by
 intro f;induction f with
 |zero=>
  intro cells d9 hcnt;exact⟨d9,by have:=LB (c:=c) hm cells;show CD c L m cells=1;omega⟩
 |succ f ih=>
  intro cells d9 hcnt;by_cases h:CD c L m cells≤1
  ·rw[M4 h];exact⟨d9,by have:=LB (c:=c) hm cells;omega⟩
  ·rw[LZ h];obtain⟨-,-,-,h4,h5⟩:=Pt hr hc gT hL hm d9 h;exact ih _ h4 (by omega)
def A2w:List Int→List Int→Prop
 |a::p,b::q=>a<b∨(a=b∧A2w p q)
 |_,_=>False
def A3g(p q:List Int):Prop:=p.length<q.length∨(p.length=q.length∧(p=q∨A2w p q))
theorem RZ:∀{p q:List Int},A2w p q→A2w q p→False
 |[],_,h,_=>h
 |_::_,[],h,_=>h
 |a::p,b::q,h1,h2=>by
  rcases h1 with h1|⟨rfl,h1⟩
  ·rcases h2 with h2|⟨e,-⟩<;>omega
  ·rcases h2 with h2|⟨-,h2⟩
   ·omega
   ·exact RZ h1 h2
theorem R4{p q:List Int}(h1:A3g p q)(h2:A3g q p):p=q:=by
 rcases h1 with h1|⟨e1,h1⟩
 ·rcases h2 with h2|⟨e2,-⟩<;>omega
 ·rcases h1 with h1|h1
  ·exact h1
  ·rcases h2 with h2|⟨-,h2⟩
   ·omega
   ·rcases h2 with h2|h2
    ·exact h2.symm
    ·exact(RZ h1 h2).elim
def SV(f:List Int→Bool)(N:Nat)(W:List Int):Prop:=(DD N W∧f W=true)∧∀q,DD N q→f q=true→A3g W q
theorem SV.eq{f:List Int→Bool}{N:Nat}{W V:List Int}(h1:SV f N W)(h2:SV f N V):W=V:=R4 (h1.2 V h2.1.1 h2.1.2) (h2.2 W h1.1.1 h1.1.2)
def Mt(N first:Nat)(l:List Int):Prop:=l.Pairwise (fun a b=>a<b)∧∀x∈l,(first:Int)≤x∧x<N
theorem Mt.cons{N first:Nat}{a:Int}{l:List Int}(h:Mt N first (a::l)):∃k,first+k<N∧a=((first+k:Nat):Int)∧Mt N (first+k+1) l:=by
 have ha:=h.2 a (by simp);refine⟨a.toNat-first,by omega,by omega,?_⟩;have hp:=h.1;rw[List.pairwise_cons] at hp;refine⟨hp.2,fun x hx=>⟨?_,(h.2 x (List.mem_cons_of_mem _ hx)).2⟩⟩;have:=hp.1 x hx;omega
theorem RD{N:Nat}{l:List Int}:Mt N 0 l↔DD N l:=by unfold Mt DD;simp
theorem Kj{N:Nat}:∀{l:List Int}{first:Nat},Mt N first l→first≤N→l.length+first≤N
 |[],first,_,h=>by simpa using h
 |a::l,first,h,_=>by
  obtain⟨k,h1,-,h3⟩:=h.cons;have:=Kj h3 (by omega);rw[List.length_cons];omega
instance A58:(p q:List Int)→Decidable (A2w p q)
 |[],_=>isFalse fun h=>h
 |_::_,[]=>isFalse fun h=>h
 |a::p,b::q=>by
  have:=A58 p q;unfold A2w;infer_instance
def Sk(x:Int):Int:=if x<0 then-x else x
theorem A3n(x:Int):0≤Sk x:=by unfold Sk;split<;>omega
theorem A1a(x y:Int):Sk (x-y)=Sk (y-x):=by unfold Sk;split<;>split<;>omega
def Ja(a b:List Int):Nat→Int
 |0=>0
 |k+1=>Ja a b k+Sk (a.getD k 0-b.getD k 0)
def gap(a b:List Int):Int:=Ja a b a.length
theorem Nb{a b:List Int}{k:Nat}{x y:Int}(hx:a[k]? =some x)(hy:b[k]? =some y):Ja a b (k+1)=Ja a b k+Sk (x-y):=by
 simp only[Ja,List.getD,hx,hy,Option.getD_some]
theorem IA{a b:List Int}(ha:∀x∈a,0≤x∧x≤5)(hb:∀x∈b,0≤x∧x≤5):∀k,0≤Ja a b k∧Ja a b k≤5*k:=by
 intro k;induction k with
 |zero=>simp[Ja]
 |succ k ih=>
  have h1:0≤a.getD k 0∧a.getD k 0≤5:=by
   simp only[List.getD];cases h:a[k]? with
   |none=>simp
   |some x=>simpa using ha x (List.mem_of_getElem? h)
  have h2:0≤b.getD k 0∧b.getD k 0≤5:=by
   simp only[List.getD];cases h:b[k]? with
   |none=>simp
   |some x=>simpa using hb x (List.mem_of_getElem? h)
  simp only[Ja];have h3:0≤Sk (a.getD k 0-b.getD k 0)∧Sk (a.getD k 0-b.getD k 0)≤5:=by unfold Sk;split<;>omega
  omega
def BX(rows cols:List Int)(m:List (List Int)):Bool:=DH rows cols&&Af m&&decide (m.length=rows.length)&&decide ((m.headD []).length=cols.length)
def B7(rows cols:List Int)(m:List (List Int)):Int:=if BX rows cols m then gap rows (A6 m)+gap cols (A8 m) else-1
theorem QW{r c:Nat}{m:List (List Int)}(h:Ac r c m)(hc:c≤5):∀x∈m.map Ay,0≤x∧x≤5:=by
 intro x hx;obtain⟨row,hr,rfl⟩:=List.mem_map.1 hx;have h1:=h.sum_bd' hr;have:=(h.2 row hr).1;omega
theorem KV{r c:Nat}{m:List (List Int)}(h:Ac r c m)(h1:1≤r)(h2:r≤5)(h3:1≤c)(h4:c≤5):A6 m=m.map Ay:=by unfold A6;rw[if_pos (h.ok h1 h2 h3 h4)]
theorem A54{r c:Nat}{m:List (List Int)}(h:Ac r c m)(h1:1≤r)(h2:r≤5)(h3:1≤c)(h4:c≤5):HJ m=tr m:=by unfold HJ;rw[if_pos (h.ok h1 h2 h3 h4)]
theorem Oj{r c:Nat}{m:List (List Int)}(h:Ac r c m)(h1:1≤r)(h2:r≤5)(h3:1≤c)(h4:c≤5):A8 m=(tr m).map Ay:=by
 unfold A8;rw[A54 h h1 h2 h3 h4,KV (h.tr h1) h3 h4 h1 h2]
theorem Ch{r c:Nat}{m:List (List Int)}(h:Ac r c m)(h1:1≤r)(h2:r≤5)(h3:1≤c)(h4:c≤5):(A6 m).length=r∧∀x∈A6 m,0≤x∧x≤5:=by
 rw[KV h h1 h2 h3 h4];exact⟨by simp[h.1],QW h h4⟩
theorem Cl{r c:Nat}{m:List (List Int)}(h:Ac r c m)(h1:1≤r)(h2:r≤5)(h3:1≤c)(h4:c≤5):(A8 m).length=c∧∀x∈A8 m,0≤x∧x≤5:=by
 rw[Oj h h1 h2 h3 h4];exact⟨by simp[(h.tr h1).1],QW (h.tr h1) h2⟩
structure ChangeAt(rows cols:List Int)(m:List (List Int))(r c:Nat):Prop where
 r1:1≤r
 r4:r≤4
 c1:1≤c
 c4:c≤4
 rl:rows.length=r
 cl:cols.length=c
 sh:Ac r c m
 rb:∀x∈rows,0≤x∧x≤5
 cb:∀x∈cols,0≤x∧x≤5
theorem FR{rows cols:List Int}(h:DH rows cols=true):1≤rows.length∧rows.length≤4∧1≤cols.length∧cols.length≤4∧(∀x∈rows,0≤x∧x≤cols.length)∧(∀x∈cols,0≤x∧x≤rows.length):=by
 unfold DH at h;simp only[Bool.and_eq_true,AT,List.all_eq_true] at h;obtain⟨⟨⟨h1,h2⟩,h3⟩,h4⟩:=h;exact⟨by omega,by omega,by omega,by omega,h3,h4⟩
theorem Lp{rows cols:List Int}{m:List (List Int)}(h:BX rows cols m=true):∃r c,ChangeAt rows cols m r c:=by
 unfold BX at h;simp only[Bool.and_eq_true,decide_eq_true_eq] at h;obtain⟨⟨⟨h1,h2⟩,h3⟩,h4⟩:=h;obtain⟨r,c,a1,a2,a3,a4,hs⟩:=Ad h2;obtain⟨k1,k2,k3,k4,k5,k6⟩:=FR h1;have e1:=hs.1;have e2:=hs.head a1;exact⟨r,c,a1,by omega,a3,by omega,by omega,by omega,hs,fun x hx=>by have:=k5 x hx;omega,fun x hx=>by have:=k6 x hx;omega⟩
theorem Q4{rows cols:List Int}{m:List (List Int)}(h:BX rows cols m=true):0≤B7 rows cols m∧B7 rows cols m≤40:=by
 obtain⟨r,c,H⟩:=Lp h;obtain⟨h1,h2,h3,h4,h5,h6,hs,eG,eY⟩:=H;unfold B7;rw[if_pos h];have a1:=IA eG (Ch hs h1 (by omega) h3 (by omega)).2 rows.length;have a2:=IA eY (Cl hs h1 (by omega) h3 (by omega)).2 cols.length;unfold gap;omega
def JI(r c key n:Nat):List (List Int):=(List.range r).map fun y=>(List.range c).map fun x=>if y*c+x<n then D6 (r*c) key (y*c+x) else 0
theorem Zv(r c key:Nat):JI r c key 0=Bv r c:=by
 simp[JI,Bv,List.map_const']
theorem A2M(r c key:Nat):JI r c key (r*c)=DU r c key:=by
 unfold JI DU Cw;apply List.map_congr_left;intro y hy;apply List.map_congr_left;intro x hx;rw[List.mem_range] at hx hy;have h1:y*c+x<r*c:=by
  have:(y+1)*c≤r*c:=Nat.mul_le_mul_right _ hy;rw[Nat.succ_mul] at this;omega
 rw[if_pos h1,if_pos (Nat.zero_le _)]
theorem Mn{r c key n y:Nat}(hy:y<r):(JI r c key n)[y]? =some ((List.range c).map fun x=>if y*c+x<n then D6 (r*c) key (y*c+x) else 0):=by simp[JI,hy]
theorem ZB{r c key n:Nat}(hc:0<c)(hn:n<r*c){row:List Int}(aG:(JI r c key n)[n/c]? =some row):(JI r c key n).set (n/c) (row.set (n % c) (D6 (r*c) key n))=JI r c key (n+1):=by
 have hy:n/c<r:=by rw[Nat.div_lt_iff_lt_mul hc];exact hn
 have hx:n % c<c:=Nat.mod_lt _ hc;rw[Mn hy] at aG;obtain rfl:=Option.some.inj aG;apply SY (r:=r) (c:=c) (by simp[JI]) (by simp[JI]);intro y gO;have hq:=Mn (c:=c) (key:=key) (n:=n+1) gO;by_cases qt:y=n/c
 ·refine⟨_,_,by rw[qt,List.getElem?_set_self (by simp[JI];exact hy)],hq,by simp,by simp,fun x hxc=>?_⟩;rw[List.getElem?_set];by_cases ny:n % c=x
  ·rw[if_pos ny,if_pos (by simpa using hx)];have e:y*c+x=n:=(Gr hxc).2 ⟨qt.symm,ny⟩;simp[hxc,e]
  ·rw[if_neg ny];have e:y*c+x≠n:=fun h=>ny ((Gr hxc).1 h).2;simp only[List.getElem?_map,List.getElem?_range hxc,Option.map_some,←qt];by_cases h1:y*c+x<n
   ·rw[if_pos h1,if_pos (by omega)]
   ·rw[if_neg h1,if_neg (by omega)]
 ·refine⟨_,_,by rw[List.getElem?_set_ne (fun e=>qt e.symm)];exact Mn gO,hq,by simp,by simp,fun x hxc=>?_⟩;have e:y*c+x≠n:=fun h=>qt ((Gr hxc).1 h).1.symm;simp only[List.getElem?_map,List.getElem?_range hxc,Option.map_some];by_cases h1:y*c+x<n
  ·rw[if_pos h1,if_pos (by omega)]
  ·rw[if_neg h1,if_neg (by omega)]
theorem PR(r c key:Nat):Ac r c (DU r c key):=ME _ _ _ _
def Ei(rows cols:List Int):Nat→Option (Nat×Int)
 |0=>none
 |k+1=>match Ei rows cols k with
  |none=>some (k,B7 rows cols (DU rows.length cols.length k))
  |some (b,l)=>if B7 rows cols (DU rows.length cols.length k)<l then some (k,B7 rows cols (DU rows.length cols.length k)) else some (b,l)
def G0(rows cols:List Int):Bool:=DH rows cols&&decide (rows.length*cols.length≤12)
def BD(rows cols:List Int):Option (Nat×Int):=if G0 rows cols then Ei rows cols (2^(rows.length*cols.length)) else none
theorem OF{rows cols:List Int}(h:DH rows cols=true)(k:Nat):BX rows cols (DU rows.length cols.length k)=true:=by
 obtain⟨k1,k2,k3,k4,k5,k6⟩:=FR h;have hs:=PR rows.length cols.length k;unfold BX;rw[h,hs.ok k1 (by omega) k3 (by omega),hs.1,hs.head k1];simp
def Gg(rows cols:List Int)(x:Option (Nat×Int)):List (List Int):=match x with|none=>[]|some (b,_)=>DU rows.length cols.length b
def A3U(x:Option (Nat×Int)):Int:=match x with|none=>0|some (_,l)=>l
def QA:List Nat→Nat
 |[]=>0
 |b::l=>b*2^l.length+QA l
theorem ZM(l:List Nat):∀k,l.foldl (fun k b=>2*k+b) k=k*2^l.length+QA l:=by
 induction l with
 |nil=>intro k;simp[QA]
 |cons b l ih=>
  intro k;rw[List.foldl_cons,ih,QA,List.length_cons,Nat.pow_succ,Nat.add_mul];rw[Nat.mul_comm 2 k,Nat.mul_assoc,Nat.mul_comm 2 (2^l.length)];omega
theorem VQ:∀{l:List Nat},(∀b∈l,b≤1)→QA l<2^l.length
 |[],_=>by simp[QA]
 |b::l,h=>by
  have h1:=h b (by simp);have h2:=VQ (l:=l) (fun x hx=>h x (List.mem_cons_of_mem _ hx));rw[QA,List.length_cons,Nat.pow_succ];have:b*2^l.length≤1*2^l.length:=Nat.mul_le_mul_right _ h1;omega
theorem Xf:∀{l:List Nat},(∀b∈l,b≤1)→∀{i b:Nat},l[i]? =some b→QA l/2^(l.length-1-i) % 2=b
 |[],_,i,b,h=>by simp at h
 |a::l,h,0,b,hb=>by
  simp at hb;subst hb;have h1:=h a (by simp);have h2:=VQ (l:=l) (fun x hx=>h x (List.mem_cons_of_mem _ hx));rw[QA,List.length_cons,Nat.sub_zero,Nat.add_sub_cancel,Nat.mul_comm a,Nat.mul_add_div (Nat.two_pow_pos _),Nat.div_eq_of_lt h2];omega
 |a::l,h,i+1,b,hb=>by
  have kx:l[i]? =some b:=by simpa using hb
  have hi:=(List.getElem?_eq_some_iff.1 kx).1;have ih:=Xf (l:=l) (fun x hx=>h x (List.mem_cons_of_mem _ hx)) kx;rw[QA,List.length_cons];obtain⟨m,hm⟩:∃m,m=l.length-1-i:=⟨_,rfl⟩;rw[show l.length+1-1-(i+1)=m by omega];rw[←hm] at ih;obtain⟨d,hd⟩:∃d,l.length=m+1+d:=⟨i,by omega⟩;have e:a*2^l.length=2^m*(2*(a*2^d)):=by
   rw[hd,Nat.pow_add,Nat.pow_succ];rw[Nat.mul_comm a,Nat.mul_assoc,Nat.mul_assoc,Nat.mul_comm (2^d) a]
  rw[e,Nat.mul_add_div (Nat.two_pow_pos _),Nat.mul_add_mod];exact ih
def HZ(r c:Nat)(g:List (List Int)):List Nat:=(List.range (r*c)).map fun n=>(Al g (n/c) (n % c)).toNat
def BI(r c:Nat)(g:List (List Int)):Nat:=QA (HZ r c g)
theorem Nt(r c:Nat)(g:List (List Int)):(HZ r c g).length=r*c:=by simp[HZ]
theorem N6{r c:Nat}{g:List (List Int)}(h:Ac r c g):∀b∈HZ r c g,b≤1:=by
 intro b hb;obtain⟨n,-,rfl⟩:=List.mem_map.1 hb;have:=AE h (n/c) (n % c);omega
theorem XZ{r c:Nat}{g:List (List Int)}(h:Ac r c g):BI r c g<2^(r*c):=by
 have:=VQ (N6 h);rwa[Nt] at this
theorem Vy{r c:Nat}{g:List (List Int)}(h:Ac r c g){n:Nat}(hn:n<r*c):D6 (r*c) (BI r c g) n=Al g (n/c) (n % c):=by
 have h1:=Xf (N6 h) (i:=n) (b:=(Al g (n/c) (n % c)).toNat) (by unfold HZ;rw[List.getElem?_map,List.getElem?_range hn];rfl);rw[Nt] at h1;unfold D6 BI;rw[h1];have:=AE h (n/c) (n % c);omega
theorem Ul{r c:Nat}(hc:1≤c){g:List (List Int)}(h:Ac r c g):DU r c (BI r c g)=g:=by
 refine(PR r c _).ext h fun i j hi hj=>?_;show Al _ i j=Al g i j;have aH:i*c+j<r*c:=by
  have:(i+1)*c≤r*c:=Nat.mul_le_mul_right c hi;rw[Nat.succ_mul] at this;omega
 have e1:(i*c+j) /c=i:=by rw[Nat.mul_comm,Nat.mul_add_div (by omega),Nat.div_eq_of_lt hj,Nat.add_zero]
 have e2:(i*c+j) % c=j:=by rw[Nat.mul_comm,Nat.mul_add_mod,Nat.mod_eq_of_lt hj]
 have hb:=Vy h aH;rw[e1,e2] at hb;rw[←hb];unfold Al DU Cw;rw[AL (l:=(List.range r).map _) (x:=(List.range c).map fun x=>if 0≤i*c+x then D6 (r*c) (BI r c g) (i*c+x) else 0) (by rw[List.getElem?_map,List.getElem?_range hi];rfl)];rw[AL (x:=D6 (r*c) (BI r c g) (i*c+j))];rw[List.getElem?_map,List.getElem?_range hj];simp
theorem OV{r c:Nat}(hc:1≤c){g h:List (List Int)}(hg:Ac r c g)(hh:Ac r c h)(e:BI r c g=BI r c h):g=h:=by
 rw[←Ul hc hg,e,Ul hc hh]
theorem Dq{r c:Nat}{g:List (List Int)}(h:Ac r c g)(h1:1≤r)(h2:r≤5)(h3:1≤c)(h4:c≤5):CY (A6 g) (A8 g) r c g:=by
 refine⟨h,fun i hi=>?_,fun j hj=>?_⟩
 ·rw[KV h h1 h2 h3 h4];obtain⟨e,-⟩:=Cv h hi;rw[AL (x:=Ay (g.getD i []))];rw[List.getElem?_map,e];rfl
 ·rw[Oj h h1 h2 h3 h4];have ht:=h.tr h1;obtain⟨e,-⟩:=Cv ht hj;rw[AL (x:=Ay ((tr g).getD j []))]
  ·rw[ZF ht hj,Zw h];exact AN fun i hi=>(A5K h h1 hj hi).symm
  ·rw[List.getElem?_map,e];rfl
structure Nw(r c:Nat)(g:List (List Int))(a:Nat)(q:List Nat)(k w0:Nat):Prop where
 nd:q.Pairwise (fun x y=>x≠y)
 lt:∀v∈q,v<r+c
 start:a∈q
 re:∀v∈q,CW r c g a v
 done:∀i v w,i<k→q[i]? =some v→w<r+c→Qw r g v w→w∈q
 mid:∀v w,q[k]? =some v→w<w0→Qw r g v w→w∈q
def Jp(n:Nat)(q:List Nat):List Bool:=(List.range n).map fun w=>decide (w∈q)
def GS(q:List Nat):List Int:=q.map fun v:Nat=>(v:Int)
theorem Gx(q:List Nat):(GS q).length=q.length:=by simp[GS]
theorem A3r{q:List Nat}{k v:Nat}(h:q[k]? =some v):(GS q)[k]? =some (v:Int):=by simp[GS,h]
theorem Zy(q:List Nat)(w:Nat):GS (q++[w])=GS q++[(w:Int)]:=by simp[GS]
theorem GE(n:Nat)(q:List Nat):(Jp n q).length=n:=by simp[Jp]
theorem It{n w:Nat}(q:List Nat)(h:w<n):(Jp n q)[w]? =some (decide (w∈q)):=by simp[Jp,h]
theorem RV(n:Nat)(q:List Nat)(w:Nat):(Jp n q).set w true=Jp n (q++[w]):=by
 apply List.ext_getElem?;intro i;rw[List.getElem?_set,GE];by_cases hi:i<n
 ·rw[It _ hi,It _ hi];by_cases hw:w=i
  ·subst hw;rw[if_pos rfl,if_pos hi];simp
  ·rw[if_neg hw]
   congr 1
   have:(i∈q)=(i∈q++[w]):=by
    simp only[List.mem_append,List.mem_singleton,eq_iff_iff];exact⟨.inl,fun h=>h.elim id fun e=>absurd e.symm hw⟩
   simp only[this]
 ·by_cases hw:w=i
  ·rw[if_pos hw,if_neg (by omega),List.getElem?_eq_none (by rw[GE];omega)]
  ·rw[if_neg hw,List.getElem?_eq_none (by rw[GE];omega),List.getElem?_eq_none (by rw[GE];omega)]
theorem A0m(n:Nat):Jp n []=List.replicate n false:=by
 apply List.ext_getElem?;intro i;by_cases hi:i<n
 ·rw[It _ hi,List.getElem?_replicate,if_pos hi];simp
 ·rw[List.getElem?_eq_none (by rw[GE];omega),List.getElem?_eq_none (by simp;omega)]
theorem ZP{r c a:Nat}(g:List (List Int))(ha:a<r+c):Nw r c g a [a] 0 0:=
 ⟨List.pairwise_singleton _ _,fun v hv=>by rw[List.mem_singleton] at hv;omega,by simp,fun v hv=>by rw[List.mem_singleton] at hv;rw[hv];exact .refl,fun i v w hi=>by omega,fun v w _ hw=>by omega⟩
theorem Nw.add{r c a k v w:Nat}{g:List (List Int)}{q:List Nat}(h:Nw r c g a q k w)(hv:q[k]? =some v)(hw:w<r+c)(he:Qw r g v w)(hn:w∉q):Nw r c g a (q++[w]) k (w+1) where
 nd:=by
  rw[List.pairwise_append];refine⟨h.nd,List.pairwise_singleton _ _,fun x hx y hy=>?_⟩;rw[List.mem_singleton] at hy;subst hy;exact fun e=>hn (e▸hx)
 lt:=fun x hx=>by
  rcases List.mem_append.1 hx with hx|hx
  ·exact h.lt x hx
  ·rw[List.mem_singleton] at hx;omega
 start:=List.mem_append_left _ h.start
 re:=fun x hx=>by
  rcases List.mem_append.1 hx with hx|hx
  ·exact h.re x hx
  ·rw[List.mem_singleton] at hx;subst hx;exact(h.re v (List.mem_of_getElem? hv)).step he hw
 done:=fun i x y hi hx hy cf=>by
  have ah:=(List.getElem?_eq_some_iff.1 hv).1;rw[List.getElem?_append_left (by omega)] at hx;exact List.mem_append_left _ (h.done i x y hi hx hy cf)
 mid:=fun x y hx hy cf=>by
  have ah:=(List.getElem?_eq_some_iff.1 hv).1;rw[List.getElem?_append_left ah] at hx;by_cases e:y=w
  ·rw[e];simp
  ·exact List.mem_append_left _ (h.mid x y hx (by omega) cf)
theorem Nw.skip{r c a k v w:Nat}{g:List (List Int)}{q:List Nat}(h:Nw r c g a q k w)(hv:q[k]? =some v)(hn:Qw r g v w→w∈q):Nw r c g a q k (w+1):=
 ⟨h.nd,h.lt,h.start,h.re,h.done,fun x y hx hy cf=>by
   by_cases e:y=w
   ·subst e;rw[hv] at hx;obtain rfl:=Option.some.inj hx;exact hn cf
   ·exact h.mid x y hx (by omega) cf⟩
theorem Nw.next{r c a k w:Nat}{g:List (List Int)}{q:List Nat}(h:Nw r c g a q k w)(hw:r+c≤w):Nw r c g a q (k+1) 0:=
 ⟨h.nd,h.lt,h.start,h.re,fun i v y hi hv hy cf=>by
   by_cases e:i=k
   ·subst e;exact h.mid v y hv (by omega) cf
   ·exact h.done i v y (by omega) hv hy cf,fun v y _ hy=>by omega⟩
theorem Nw.len{r c a k w:Nat}{g:List (List Int)}{q:List Nat}(h:Nw r c g a q k w):q.length≤r+c:=by
 have:=Me (fun v:Nat=>v) q (List.range (r+c)) h.nd fun v hv=>List.mem_range.2 (h.lt v hv);rwa[List.length_range] at this
theorem Nw.all{r c a k w:Nat}{g:List (List Int)}{q:List Nat}(h:Nw r c g a q k w)(hk:q.length≤k)(ha:a<r+c):∀v,v∈q↔CW r c g a v:=fun v=>
 ⟨h.re v,fun hr=>hr.closed (S:=fun v=>v∈q) h.start ha fun x y _ hy hx he=>by
   obtain⟨i,hi⟩:=List.getElem?_of_mem hx;exact h.done i x y (by have:=(List.getElem?_eq_some_iff.1 hi).1;omega) hi hy he⟩
def Jr(r:Nat)(m:List (List Int))(y x:Nat):Nat:=if Al m y x=1 then r+x else y
def Tx(r:Nat)(m:List (List Int))(y x:Nat):Nat:=if Al m y x=1 then y else r+x
open Classical in
theorem A0d{r c:Nat}{m:List (List Int)}(hs:Ac r c m)(hr1:1≤r)(hr5:r≤5)(hc1:1≤c)(hc5:c≤5){y x:Nat}(hy:y<r)(hx:x<c):
  (∃h,CY (A6 m) (A8 m) r c h∧Al h y x≠Al m y x)↔CW r c m (Jr r m y x) (Tx r m y x):=by
 have hS:=Dq hs hr1 hr5 hc1 hc5;have aw:=(Ch hs hr1 hr5 hc1 hc5).1;have az:=(Cl hs hr1 hr5 hc1 hc5).1;have aD:AF (A6 m) (A8 m)=true:=Ip (by omega) (by omega) (by omega) (by omega) (by rw[aw,az];exact hS);have ix:Ay (A6 m)=Ay (A8 m):=by
  obtain⟨-,-,-,-,-,-,h⟩:=BC aD;exact h
 have hb:=AE hs y x;unfold Jr Tx;by_cases h1:Al m y x=1
 ·rw[if_pos h1,if_pos h1];have key:=A0H (xs:=A6 m) (ys:=A8 m) (g:=m) ix (by rw[aw,az];exact hS) (y:=y) (x:=x) (by omega) (by omega) h1;rw[aw,az] at key;rw[←key,h1];constructor
  ·rintro⟨h,hh,aO⟩;have:=AE hh.1 y x;exact⟨h,hh,by omega⟩
  ·rintro⟨h,hh,h0⟩;exact⟨h,hh,by omega⟩
 ·have h0:Al m y x=0:=by omega
  rw[if_neg h1,if_neg h1];have key:=A0l (xs:=A6 m) (ys:=A8 m) (g:=m) ix (by rw[aw,az];exact hS) (y:=y) (x:=x) (by omega) (by omega) h0;rw[aw,az] at key;rw[←key,h0];constructor
  ·rintro⟨h,hh,aO⟩;have:=AE hh.1 y x;exact⟨h,hh,by omega⟩
  ·rintro⟨h,hh,h0⟩;exact⟨h,hh,by omega⟩
theorem A1R{r c:Nat}{m:List (List Int)}{y x:Nat}(hy:y<r)(hx:x<c):Jr r m y x<r+c∧Tx r m y x<r+c:=by
 unfold Jr Tx
 split<;>omega

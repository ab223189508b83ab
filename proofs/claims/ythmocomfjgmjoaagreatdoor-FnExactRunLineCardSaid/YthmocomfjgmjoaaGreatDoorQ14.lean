/- Base. -/
import Derived.Test.YthmocomfjgmjoaaGreatDoorQ13
set_option maxHeartbeats 4000000
set_option maxRecDepth 100000
namespace Go.Proofs.YthmocomfjgmjoaaGreatDoor
variable {C L R:I}{k:Nat}{l:U}{rows:I}
def Dr(R C:I):Nat→I→List I
 |0,rows=>if DV rows=C then[rows]else[]
 |f+1,rows=>(BC (R.getD rows.length []) C.length).flatMap fun l=>Dr R C f (rows++[l])
def De(R C:I)(f:Nat)(rows:I)(L:I)(k:Nat):List I:=(L.take k).flatMap fun l=>Dr R C f (rows++[l])
theorem Nl(R C:I)(f:Nat)(rows L:I):De R C f rows L 0=[]:=by simp[De]
theorem Nu{f:Nat}(h:L[k]? =some l):De R C f rows L (k+1)=De R C f rows L k++Dr R C f (rows++[l]):=by
 unfold De;rw[Ao,h,List.flatMap_append];simp
theorem P3{f:Nat}(hL:L=BC (R.getD rows.length []) C.length)(hk:L.length≤k):De R C f rows L k=Dr R C (f+1) rows:=by
 unfold De;rw[A9 hk,Dr,hL]
theorem ZI:∀n,n<6→∀key,key<2^n→(BC (C3 (B6 n key)) n).length≤6:=by decide+kernel
theorem PA{n:Nat}(h:n≤5)(rs:U):(BC rs n).length≤6:=by
 cases hl:BC rs n with
 |nil=>simp
 |cons a l=>
  have hm:a∈BC rs n:=by rw[hl];simp
  have hm2:=hm;unfold BC Er at hm2;obtain⟨h1,h2⟩:=List.mem_filter.1 hm2;obtain⟨key,hk,rfl⟩:=AE.1 h1;have h3:C3 (B6 n key)=rs:=by simpa using h2
  have:=ZI n J key (AG.1 hk);rw[h3,hl]at this;exact this
theorem Rw{α β:Type}(g:α→List β)(N:Nat):∀(L:List α),(∀x∈L,(g x).length≤N)→(L.flatMap g).length≤L.length*N
 |[],_=>by simp
 |x::L,h=>by
  rw[List.flatMap_cons,Ad,An,Nat.succ_mul];have h1:=h x Jj;have h2:=Rw g N L (fun y hy=>h y (AL _ hy));omega
theorem Rs(hc:C.length≤5):∀(f:Nat)(rows:I),(Dr R C f rows).length≤6^f:=by
 intro f;induction f with
 |zero=>intro rows;unfold Dr;split<;>simp
 |succ f ih=>
  intro rows;unfold Dr;have h1:=Rw (fun l=>Dr R C f (rows++[l])) (6^f) (BC (R.getD rows.length []) C.length) (fun l _=>ih _);have h2:=Nat.mul_le_mul_right (6^f) (PA hc (R.getD rows.length []));rw[Nat.pow_succ];omega
theorem Pb(hc:C.length≤5)(f:Nat)(rows L:I)(k:Nat):(De R C f rows L k).length≤k*6^f:=by
 unfold De;have h1:=Rw (fun l=>Dr R C f (rows++[l])) (6^f) (L.take k) (fun l _=>Rs hc _ _);have h2:(L.take k).length≤k:=by rw[At];omega
 exact Aj h1 (Nat.mul_le_mul_right _ h2)
def X7(c:Nat)(rows:I):Prop:=∀row∈rows,row.length=c∧∀x∈row,0≤x∧x≤1
theorem X7.snoc{c:Nat}{rs:U}(h:X7 c rows)(hl:l∈BC rs c):X7 c (rows++[l]):=by
 intro row aD;rcases List.mem_append.1 aD with h1|h1
 ·exact h row h1
 ·rw[List.mem_singleton]at h1;subst h1;exact Jn hl
def DA(R C:I):List I:=if Bv R C then Dr R C R.length []else[]
theorem KR(h:Bv R C=false):DA R C=[]:=by unfold DA;rw[h];rfl
theorem JW(h:Bv R C=true):DA R C=Dr R C R.length []:=by unfold DA;rw[h];rfl
end Go.Proofs.YthmocomfjgmjoaaGreatDoor
namespace Go.Proofs.YthmocomfjgmjoaaGreatDoor
open Go.RowKit
variable {Bf Bm Bo Bp:Nat}{C:I}{E:TypeId}{F:Value}{K:Nat}{α:Type}{R:CP α}{S Sm So:Bk}{W0:World}{b:Value}{n:Nat}{out:List I}{rows:I}{u v:Value}{vals:List Value}{vm vo:Value}{w w' w2:World}{xs:List α}
def A3J:CP Value:=fun _ _ u x=>u=x∧u.oneCell'=true
theorem Xl:LZ A3J:=⟨fun _ h=>h,fun _ h=>h,fun h=>h,fun h=>h.2⟩
theorem UD{P:Program}{w0:World}{fM:Array Oper}{o:Oper}{a:Act}{K:Act→World→Prop}{Q:Exit→Act→World→Prop}{Ep:Prop}(iM:o.guard=none)(s xo:Operand)(t:TypeId)
  (ho:o.op=.call {callee:=.builtin .append,args:=#[s,xo],argTypes:=#[t,t]})(hR:LZ R)
  (E:TypeId){z:Value}{bytes:Nat}(ht:P.underlying t=some (.slice E))(cH:(P.info? E).map (fun i=>(i.zero,i.size,i.bytes))=some (some z,1,bytes))(eM:z.cells.size=1)(dF:bytes≤64)
  (S T S':Bk){x:α}(hs:a.eval s=v)(hx:a.eval xo=.slice (some ⟨w0.heap.size,0,none⟩) 1 1)(aB:Ag E R S w0 v xs)(hu:R T w0 u x)(ij:∀b,S b→¬T b)(hS:∀b,S b→b<w0.heap.size)(hT:∀b,T b→b<w0.heap.size)
  (rk:∀b,S b→S' b)(d5:∀b,T b→S' b)(lu:∀b,w0.heap.size<b→S' b)(aN:xs.length<1099511627776)
  (h:∀v' w',Ag E R (fun b=>S' b∧b<w'.heap.size) w' v' (xs++[x])→AO (fun b=>v.ownBlock=some b) w0 w'→K (a.put o.dst v') w'):
  if Region.wanted o (yielded fM a.tmps)=true then Oper.wp P o a (w0.alloc (.cells #[u] E)) K Q else Ep:=by
 have hw:Region.wanted o (yielded fM a.tmps)=true:=by simp[Region.wanted,iM]
 rw[if_pos hw];obtain⟨i,hi,hz,aV,du⟩:=info_parts cH;obtain⟨v',w',hr,h2,h3⟩:=Mx (P:=P) hR w0 t o.type E i z bytes ht hi hz aV du eM dF S T S' v u xs x aB hu ij hS hT rk d5 lu aN;unfold Oper.wp execOp;simp only[ho,resolve,invoke,builtin,Sem.run_bind,Sem.run_pure,Result.andThen_ok,List.map_toArray,List.map_cons,List.map_nil,hs,hx,hr];exact h v' w' h2 h3
theorem Ag.init{g cap:Nat}{x:α}(h:Ag E R S w (.slice (some ⟨g,0,none⟩) n cap) (xs++[x])):n=xs.length+1∧n≤cap∧Ag E R S w (.slice (some ⟨g,0,none⟩) xs.length cap) xs:=by
 rcases h with⟨h,-⟩|⟨g',arr,he,hg,hh,h1,h2,h3,T,d5,hT2,hT3⟩
 ·cases h
 ·simp only[Value.slice.injEq,Option.some.injEq,Addr.mk.injEq,and_true]at he;obtain⟨rfl,rfl,rfl⟩:=he;rw[Ad,List.length_singleton]at h1 h3;refine⟨Jj,by rw[Ad,List.length_singleton];omega,.inr ⟨g,arr,rfl,hg,hh,J,h2,J,T,d5,hT2,fun k y hk=>?_⟩⟩;have au:=(A5.1 hk).1;exact hT3 k y (by rw[Aq au];exact hk)
def IM(S:Bk)(w:World)(vals:List Value)(rows:I):Prop:=
 vals.length=rows.length∧∀(k:Nat) v x,vals[k]? =some v→rows[k]? =some x→Sl Ap (fun b=>b<w.heap.size∧¬S b) w v x
theorem IM.go{S':Bk}(h:IM S w vals rows)(ho:AO S w w')(hS:∀b,S' b→S b∨w.heap.size≤b):IM S' w' vals rows:=by
 refine⟨h.1,fun k v x hv hx=>?_⟩;refine(Cd A8).mono (fun b hb=>⟨Aa hb.1 ho.size,fun h'=>?_⟩) ((Cd A8).same (fun b hb=>ho.block b hb.1 hb.2) (h.2 k v x hv hx));rcases hS b h' with h1|h1
 ·exact hb.2 h1
 ·have:=hb.1;omega
theorem IM.snoc{x:U}(h:IM S w vals rows)(hv:Sl Ap (fun b=>b<w.heap.size∧¬S b) w v x):IM S w (vals++[v]) (rows++[x]):=by
 have hl:=h.1;refine⟨by simp[h.1],fun k v' x' h1 h2=>?_⟩;by_cases hk:k<vals.length
 ·rw[Aq hk]at h1;rw[Aq J]at h2;exact h.2 k v' x' h1 h2
 ·have jp:k=vals.length:=by have:=(A5.1 h1).1;simp at this;omega
  subst jp;rw[List.getElem?_append_right (A2 _),Nat.sub_self]at h1;rw[List.getElem?_append_right J,hl,Nat.sub_self]at h2;simp at h1 h2;subst h1;subst h2;exact hv
theorem A0V(hr:IM S w vals rows)(hm:Ag E A3J Sm w vm vals):AI w vm rows:=by
 have hl:=hr.1;rcases hm with⟨rfl,rfl⟩|⟨g,arr,rfl,hg,hh,h1,h2,h3,T,-,-,hT3⟩
 ·have:rows=[]:=List.eq_nil_of_length_eq_zero (by rw[←hl];rfl);subst this;exact⟨none,0,rfl,Jj,Jj,fun _=>rfl,fun h=>by simp at h⟩
 ·rw[hl]at h1 h3⊢;refine⟨_,_,rfl,h1,Aj h3 Jq,fun h=>by simp at h,fun _=>⟨g,0,rfl,lt_of_block hh,fun k x hk=>?_⟩⟩;have au:=(A5.1 hk).1;obtain⟨v,hv⟩:∃v,vals[k]? =some v:=⟨_,A3 J⟩;obtain⟨u,hu,rfl,-⟩:=hT3 k v hv;refine⟨u,by rw[cell_of_row w g _ arr E (0,0) hh,Nat.zero_add];exact hu,(Cd A8).mono (fun b hb=>hb.1) (hr.2 k u x hv hk)⟩
def Wr(Sm So:Bk)(Bm Bo:Nat):Bk:=fun b=>Sm b∨So b∨b=Bm∨b=Bo
theorem MS{Sm' So':Bk}(h1:∀b,Sm' b→Sm b∨n≤b)(h2:∀b,So' b→So b∨n≤b):∀b,Wr Sm' So' Bm Bo b→Wr Sm So Bm Bo b∨n≤b:=by
 rintro b (h|h|h|h)
 ·exact(h1 b h).imp (fun h=>.inl h) id
 ·exact(h2 b h).imp (fun h=>.inr (.inl h)) id
 ·exact .inl (.inr (.inr (.inl h)))
 ·exact .inl (.inr (.inr (.inr h)))
theorem Te:(Tryz.prog.info? 31).map (fun i=>(i.zero,i.size,i.bytes))=some (some (.slice none 0 0),1,24):=by kernel_rfl
structure YC(n Bp Bm Bo Bf K:Nat)(a b F:Value)(W0 w:World)(vm:Value)(vals:List Value)(Sm:Bk)(vo:Value)(out:List I)(So:Bk):Prop where
 base:Below n W0 w
 bp:B9 w Bp #[a,b] 85
 bm:B9 w Bm #[vm] 31
 bo:B9 w Bo #[vo] 77
 bf:B9 w Bf #[F] 138
 om:Ag 32 A3J Sm w vm vals
 oo:Ag 31 (Ag 32 (Ag 3 Ap)) So w vo out
 hm:∀b,Sm b→(K≤b∧b<w.heap.size)∧¬So b
 ho:∀b,So b→K≤b∧b<w.heap.size
 hK:K≤w.heap.size
structure SWf(n Bp Bm Bo Bf K:Nat):Prop where
 h1:n≤Bp
 h2:Bp<Bo
 h3:Bo<Bm
 h4:Bm<Bf
 h5:Bf<K
theorem YC.push{a:Value}{pn:Value}(wf:SWf n Bp Bm Bo Bf K)(h:YC n Bp Bm Bo Bf K a b F W0 w vm vals Sm vo out So)
  (h2:Ag 32 A3J (fun b=>(Sm b∨w.heap.size≤b)∧b<w2.heap.size) w2 pn (vals++[u]))(h3:AO (fun b=>vm.ownBlock=some b) w w2):
  YC n Bp Bm Bo Bf K a b F W0 (w2.setCell ⟨Bm,0,none⟩ pn) pn (vals++[u]) (fun b=>(Sm b∨w.heap.size≤b)∧b<w2.heap.size) vo out So∧AO (Wr Sm So Bm Bo) w (w2.setCell ⟨Bm,0,none⟩ pn):=by
 obtain⟨a1,a2,a3,a4,a5⟩:=wf;have hs:=h3.size;have hK:=h.hK;have aK:∀g,g<K→¬(vm.ownBlock=some g):=fun g hg he=>by have:=(h.hm g (h.om.qae g he)).1.1;omega
 have kb:∀{g:Nat}{cs:Array Value}{t:TypeId},B9 w g cs t→g<K→g≠Bm→B9 (w2.setCell ⟨Bm,0,none⟩ pn) g cs t:=fun {g cs t} hg hl hn=>B9.qah (hg.only h3 (aK g hl)) hn pn;have aA:Below n w w2:=h3.below J (fun b hb=>by have:=(h.hm b (h.om.qae b hb)).1.1;omega);have aH:∀b,b≠Bm→(w2.setCell ⟨Bm,0,none⟩ pn).heap[b]? =w2.heap[b]? :=fun b hb=>Below.heap_setCell w2 _ _ b (by show b≠Bm;exact hb);refine⟨⟨(h.base.trans aA).setCell (by show n≤Bm;omega) _,kb h.bp J J,?_,kb h.bo J J,kb h.bf J J,?_,?_,fun b hb=>⟨⟨?_,by rw[As];exact hb.2⟩,fun ho=>?_⟩,fun b hb=>⟨(h.ho b hb).1,by rw[As];exact Aa (h.ho b hb).2 hs⟩,by rw[As];omega⟩,?_⟩
 ·have h1:=(h.bm.only h3 (aK Bm J)).set (j:=0) pn;simpa using h1
 ·exact(Ab Xl).same (fun b hb=>aH b (by have h6:K≤b:=(hb.1.elim (fun x=>(h.hm b x).1.1) (fun x=>by omega));omega)) h2
 ·refine(Ab (Ab (Ab A8))).same (fun b hb=>(aH b (by have:=(h.ho b hb).1;omega)).trans (h3.block b (h.ho b hb).2 fun he=>(h.hm b (h.om.qae b he)).2 hb)) h.oo
 ·exact hb.1.elim (fun x=>(h.hm b x).1.1) (fun x=>by omega)
 ·rcases hb.1 with x|x
  ·exact(h.hm b x).2 ho
  ·have:=(h.ho b ho).2;omega
 ·exact(h3.mono fun b hb _=>.inl (h.om.qae b hb)).setCell (.inl (.inr (.inr (.inl rfl)))) _
theorem YC.pop{a:Value}(wf:SWf n Bp Bm Bo Bf K)(h:YC n Bp Bm Bo Bf K a b F W0 w vm (vals++[u]) Sm vo out So):
  ∃g cap,vm=.slice (some ⟨g,0,none⟩) (vals.length+1) cap∧vals.length+1≤cap∧
   YC n Bp Bm Bo Bf K a b F W0 (w.setCell ⟨Bm,0,none⟩ (.slice (some ⟨g,0,none⟩) vals.length cap)) (.slice (some ⟨g,0,none⟩) vals.length cap) vals Sm vo out So∧AO (Wr Sm So Bm Bo) w (w.setCell ⟨Bm,0,none⟩ (.slice (some ⟨g,0,none⟩) vals.length cap)):=by
 obtain⟨a1,a2,a3,a4,a5⟩:=wf;have hK:=h.hK;have hom:=h.om;obtain⟨g,cap,rfl,-⟩:=hom.qac Jj;obtain⟨e1,e2,o2⟩:=hom.init;have hl:(vals++[u]).length=vals.length+1:=Jj;rw[hl]at e2;have kb:∀{g':Nat}{cs:Array Value}{t:TypeId},B9 w g' cs t→g'≠Bm→B9 (w.setCell ⟨Bm,0,none⟩ (.slice (some ⟨g,0,none⟩) vals.length cap)) g' cs t:=fun {g' cs t} hg hn=>B9.qah hg hn _;have aH:∀b,b≠Bm→(w.setCell ⟨Bm,0,none⟩ (.slice (some ⟨g,0,none⟩) vals.length cap)).heap[b]? =w.heap[b]? :=fun b hb=>Below.heap_setCell w _ _ b (by show b≠Bm;exact hb);refine⟨g,cap,by rw[hl],e2,⟨h.base.setCell (by show n≤Bm;omega) _,kb h.bp J,?_,kb h.bo J,kb h.bf J,?_,?_,fun b hb=>⟨⟨(h.hm b hb).1.1,by rw[As];exact(h.hm b hb).1.2⟩,(h.hm b hb).2⟩,fun b hb=>⟨(h.ho b hb).1,by rw[As];exact(h.ho b hb).2⟩,by rw[As];exact hK⟩,(AO.refl _ w).setCell (.inl (.inr (.inr (.inl rfl)))) _⟩
 ·have h1:=h.bm.set (j:=0) (.slice (some ⟨g,0,none⟩) vals.length cap);simpa using h1
 ·exact(Ab Xl).same (fun b hb=>aH b (by have:=(h.hm b hb).1.1;omega)) o2
 ·exact(Ab (Ab (Ab A8))).same (fun b hb=>aH b (by have:=(h.ho b hb).1;omega)) h.oo
theorem YC.more{a:Value}{w1:World}{vo2:Value}{out2:List I}(wf:SWf n Bp Bm Bo Bf K)(h:YC n Bp Bm Bo Bf K a b F W0 w vm vals Sm vo out So)(dK:Below w.heap.size w w1)
  (h2:Ag 31 (Ag 32 (Ag 3 Ap)) (fun b=>(So b∨w.heap.size≤b)∧b<w2.heap.size) w2 vo2 out2)(h3:AO (fun b=>vo.ownBlock=some b) w1 w2):
  YC n Bp Bm Bo Bf K a b F W0 (w2.setCell ⟨Bo,0,none⟩ vo2) vm vals Sm vo2 out2 (fun b=>(So b∨w.heap.size≤b)∧b<w2.heap.size)∧AO (Wr Sm So Bm Bo) w (w2.setCell ⟨Bo,0,none⟩ vo2):=by
 obtain⟨a1,a2,a3,a4,a5⟩:=wf;have hs:=h3.size;have cQ:=dK.size;have hK:=h.hK;have aK:∀g,g<K→¬(vo.ownBlock=some g):=fun g hg he=>by have:=(h.ho g (h.oo.qae g he)).1;omega
 have kb:∀{g:Nat}{cs:Array Value}{t:TypeId},B9 w g cs t→g<K→g≠Bo→B9 (w2.setCell ⟨Bo,0,none⟩ vo2) g cs t:=fun {g cs t} hg hl hn=>B9.qah ((hg.keep dK).only h3 (aK g hl)) hn vo2;have aA:Below n w w2:=(dK.mono J).trans (h3.below J (fun b hb=>by have:=(h.ho b (h.oo.qae b hb)).1;omega));have aH:∀b,b≠Bo→(w2.setCell ⟨Bo,0,none⟩ vo2).heap[b]? =w2.heap[b]? :=fun b hb=>Below.heap_setCell w2 _ _ b (by show b≠Bo;exact hb);refine⟨⟨(h.base.trans aA).setCell (by show n≤Bo;omega) _,kb h.bp J J,kb h.bm J J,?_,kb h.bf J J,?_,?_,fun b hb=>⟨⟨(h.hm b hb).1.1,by rw[As];have:=(h.hm b hb).1.2;omega⟩,fun ho=>?_⟩,fun b hb=>⟨?_,by rw[As];exact hb.2⟩,by rw[As];omega⟩,?_⟩
 ·have h1:=((h.bo.keep dK).only h3 (aK Bo J)).set (j:=0) vo2;simpa using h1
 ·refine(Ab Xl).same (fun b hb=>(aH b (by have:=(h.hm b hb).1.1;omega)).trans ((h3.block b (by have:=(h.hm b hb).1.2;omega) fun he=>(h.hm b hb).2 (h.oo.qae b he)).trans (dK.block b (h.hm b hb).1.2))) h.om
 ·exact(Ab (Ab (Ab A8))).same (fun b hb=>aH b (by have h6:K≤b:=(hb.1.elim (fun x=>(h.ho b x).1) (fun x=>by omega));omega)) h2
 ·rcases ho.1 with x|x
  ·exact(h.hm b hb).2 x
  ·have:=(h.hm b hb).1.2;omega
 ·exact hb.1.elim (fun x=>(h.ho b x).1) (fun x=>by omega)
 ·exact((AO.qaj dK _).qai (h3.mono fun b hb _=>.inl (.inr (.inl (h.oo.qae b hb))))).setCell (.inl (.inr (.inr (.inr rfl)))) _
theorem YC.keep{a:Value}(wf:SWf n Bp Bm Bo Bf K)(h:YC n Bp Bm Bo Bf K a b F W0 w vm vals Sm vo out So)(hb:Below w.heap.size w w'):YC n Bp Bm Bo Bf K a b F W0 w' vm vals Sm vo out So:=by
 obtain⟨a1,a2,a3,a4,a5⟩:=wf;have hs:=hb.size;have hK:=h.hK;exact⟨h.base.trans (hb.mono J),h.bp.keep hb,h.bm.keep hb,h.bo.keep hb,h.bf.keep hb,(Ab Xl).same (Ac hb fun b hb=>(h.hm b hb).1.2) h.om,(Ab (Ab (Ab A8))).same (Ac hb fun b hb=>(h.ho b hb).2) h.oo,
  fun b hb=>⟨⟨(h.hm b hb).1.1,Aa (h.hm b hb).1.2 hs⟩,(h.hm b hb).2⟩,fun b hb=>⟨(h.ho b hb).1,Aa (h.ho b hb).2 hs⟩,Aj hK hs⟩
def A4B(n Bp Bm Bo Bf K:Nat)(a b F:Value)(W0 w:World)(vals:List Value)(Sm So:Bk)(out:List I)(w':World):Prop:=
 ∃vm' Sm' vo' So',YC n Bp Bm Bo Bf K a b F W0 w' vm' vals Sm' vo' out So'∧(∀b,Sm' b→Sm b∨w.heap.size≤b)∧(∀b,So' b→So b∨w.heap.size≤b)∧AO (Wr Sm So Bm Bo) w w'
theorem A4l{a:Value}{R:I}(wf:SWf n Bp Bm Bo Bf K)(hF:F=.func (.func 177) #[] #[.pointer (some ⟨Bp,0,none⟩),.pointer (some ⟨Bm,0,none⟩),.pointer (some ⟨Bo,0,none⟩),.pointer (some ⟨Bf,0,none⟩)])
  (hn:W0.heap.size≤n)(_:n≤W0.heap.size)(ha:AI W0 a R)(hb:AI W0 b C)(hR1:1≤R.length)(ia:R.length≤5)(hC1:1≤C.length)(rm:C.length≤5)(f:Nat):
  ∀(vals:List Value)(rows:I)(vm:Value)(Sm:Bk)(vo:Value)(So:Bk)(out:List I)(w:World),YC n Bp Bm Bo Bf K a b F W0 w vm vals Sm vo out So→IM (Wr Sm So Bm Bo) w vals rows→X7 C.length rows→rows.length+f=R.length→out.length+6^f≤1099511627775→
   Calls Tryz.prog 177 #[.int .i64 rows.length,.pointer (some ⟨Bp,0,none⟩),.pointer (some ⟨Bm,0,none⟩),.pointer (some ⟨Bo,0,none⟩),.pointer (some ⟨Bf,0,none⟩)] w fun e w'=>e=.returned (.tuple #[])∧A4B n Bp Bm Bo Bf K a b F W0 w vals Sm So (out++Dr R C f rows) w':=by
 subst hF;have Wf:=Z wf;have Ha:=Z ha;have Hb:=Z hb;obtain⟨aa,ca,rfl,-,hleR,-⟩:=ha;obtain⟨ab,cb,rfl,-,hleC,-⟩:=hb;have nS:Bo<K:=by have:=wf.h3;have:=wf.h4;have:=wf.h5;omega
 induction f with
 |zero=>
  intro vals rows vm Sm vo So out w bB hrok dL aN bR;have aG:=Z bB;have rn:=Z hrok;have hlr:rows.length≤R.length:=J;have hlr2:R.length≤rows.length:=J;have fj:((rows.length:Int)==(R.length:Int))=true:=by rw[beq_iff_eq];omega
  have c0:w.cell? ⟨Bp,0,none⟩=some (.slice aa R.length ca):=bB.bp.cell 0;have c2:w.cell? ⟨Bm,0,none⟩=some vm:=bB.bm.cell 0;have HG:=Z (A0V hrok bB.om);have n9:=Z dL;have dT:=Z bR;have hK:=bB.hK;clear bB hrok dL aN bR;go_enter Tryz.func177,Tryz.ntmps177;go_wp2_with fail;refine(KS 54 (.inl rfl) _ rows _ HG.o).mono ?_;rintro e w1 ⟨a1,b1,rfl,o1,dK⟩;obtain⟨⟨p1,p2,p3,rfl⟩,⟨q1,q2,q3,rfl⟩⟩:=o1.shape;have dm:=Z dK;have cZ:=Z (aG.o.keep Wf.o dK);have e1:(w1.alloc (.cells #[.slice p1 p2 p3,.slice q1 q2 q3] 85)).cell? ⟨Bp,1,none⟩=some (.slice ab C.length cb):=(cZ.o.bp.keep (Below.qab _ _)).cell 1;have HGx:=Z o1.reads.2;clear o1 dK c0 c2;go_wp2_with fail;refine(Nb _ _ (DV rows) C _ (HGx.o.keep (Below.qab _ _)) ((Hb.o.keep (cZ.o.base.mono hn)).keep (Below.qab _ _))).mono ?_;rintro e w2 ⟨rfl,b2⟩;have af:Below w.heap.size w w2:=(dm.o.qaa (Below.qab _ _) (A2 _)).qaa b2 (A2 _);have be:=Z af;have bM:=Z (aG.o.keep Wf.o af);clear b2 af e1;by_cases hq:DV rows=C
  ·have eA:=Z (show Dr R C 0 rows=[rows]from by unfold Dr;rw[if_pos hq]);rw[decide_eq_true hq];have fg:out.length<1099511627776:=Nat.lt_of_le_of_lt (Aj (Nat.le_add_right _ _) dT.o) Jq;have bF:rows.length≤1048576:=J;have HR:=Z (show ∀p∈rows,p.length≤1048576 from fun p hp=>by have:=(n9.o p hp).1;omega);have nX:=Z (HG.o.keep be.o);have c2:w2.cell? ⟨Bm,0,none⟩=some vm:=bM.o.bm.cell 0;have c5:w2.cell? ⟨Bo,0,none⟩=some vo:=bM.o.bo.cell 0;have c6:w2.frozen? ⟨Bo,0,none⟩=false:=bM.o.bo.frozen 0;have jh:Bo<w2.heap.size:=by have:=bM.o.hK;omega
   have eZ:=Z bM.o.oo;have hJ:¬vo.ownBlock=some Bo:=fun he=>by have:=(bM.o.ho Bo (bM.o.oo.qae Bo he)).1;omega
   have oe:=Z hJ;obtain⟨m1,m2,m3,rfl⟩:=bM.o.om.shape;clear hq hJ;go_wp2
   go_region_law (first
    |(refine UD (w0:=w3) (v:=vo) rfl (.tmp 25) (.tmp 28) 77 rfl (Ab (Ab A8)) 31 Tryz.underlying77 Te rfl Jq So (Iv w2.heap.size w3.heap.size) (fun b=>So b∨w.heap.size≤b) (by simp[Act.eval]) (by simp[Act.eval]) (by exact vh.o) (by exact cY.o) (fun b h1 h2=>by have:=(bM.o.ho b h1).2;have:=h2.1;omega) (fun b h1=>by have:=(bM.o.ho b h1).2;omega) (fun b h1=>h1.2) (fun b h1=>.inl h1) (fun b h1=>.inr (by have:=h1.1;have:=be.o.size;omega)) (fun b h1=>.inr (by have:=be.o.size;omega)) fg ?_;intro v4 w4 o4 g6;obtain⟨p4,p5,p6,rfl⟩:=o4.shape;have c7:=(g6.cell (p:=⟨Bo,0,none⟩) nC oe.o).trans qF;have c8:=(g6.frozen (p:=⟨Bo,0,none⟩) nC oe.o).trans sx)
    |(refine UD (w0:=w3.drew) (v:=vo) rfl (.tmp 25) (.tmp 28) 77 rfl (Ab (Ab A8)) 31 Tryz.underlying77 Te rfl Jq So (Iv w2.heap.size w3.heap.size) (fun b=>So b∨w.heap.size≤b) (by simp[Act.eval]) (by simp[Act.eval]) (by exact vh.o) (by exact cY.o) (fun b h1 h2=>by have:=(bM.o.ho b h1).2;have:=h2.1;omega) (fun b h1=>Aa (bM.o.ho b h1).2 d7) (fun b h1=>h1.2) (fun b h1=>.inl h1) (fun b h1=>.inr (by have:=h1.1;have:=be.o.size;omega)) (fun b h1=>.inr (Aj (Aj be.o.size d7) (Nat.le_of_lt h1))) fg ?_;intro v4 w4 o4 g6;obtain⟨p4,p5,p6,rfl⟩:=o4.shape;have c7:=(g6.cell (p:=⟨Bo,0,none⟩) nC oe.o).trans qF;have c8:=(g6.frozen (p:=⟨Bo,0,none⟩) nC oe.o).trans sx)
    |(go_simp;go_at_call 82;refine(F5 _ rows _ (by exact nX.o) bF HR.o).mono ?_;rintro e w3 ⟨v3,rfl,o3,b3⟩;obtain⟨r1,r2,r3,rfl⟩:=o3.shape;
      have vj:Below w2.heap.size w2 w3:=⟨b3.os,b3.tape,b3.output,b3.size,b3.block⟩;
      have d7:=vj.size;
      have cY:=Z o3;
      have vh:=Z ((Ab (Ab (Ab A8))).same (Ac vj fun b hb=>(bM.o.ho b hb).2) eZ.o);
      have qF:=(vj.cell (p:=⟨Bo,0,none⟩) jh).trans c5;have nC:Bo<w3.heap.size:=Aa jh d7;have yL:=((Below.qab w3 (.cells #[Value.slice r1 r2 r3] 31)).cell (p:=⟨Bo,0,none⟩) nC).trans qF;
      have sx:=(vj.frozen (p:=⟨Bo,0,none⟩) jh).trans c6;clear o3 b3))
   all_goals go_wp2
   all_goals refine Jz #[] (by simp[results,Tryz.results177,go_sem]) ⟨rfl,?_⟩
   all_goals
    rw[eA.o];have hx:AO (fun b=>vo.ownBlock=some b) w3 w4:=⟨g6.os,g6.tape,g6.output,g6.size,g6.block⟩;obtain⟨s5,y5⟩:=aG.o.more Wf.o (be.o.qaa vj (A2 _)) (vo2:=.slice p4 p5 p6) (out2:=out++[rows]) o4 hx;exact⟨_,Sm,_,_,s5,fun b hb=>.inl hb,fun b hb=>hb.1,y5⟩
  ·have eA:=Z (show Dr R C 0 rows=[]from by unfold Dr;rw[if_neg hq]);rw[decide_eq_false hq];clear hq;go_wp2;refine Jz #[] (by simp[results,Tryz.results177,go_sem]) ⟨rfl,?_⟩;rw[eA.o,List.append_nil];exact⟨_,Sm,_,So,bM.o,fun b hb=>.inl hb,fun b hb=>.inl hb,AO.qaj be.o _⟩
 |succ f ih=>
  intro vals rows vm Sm vo So out w bB hrok dL aN bR;have IH:=Z ih;have aG:=Z bB;have rn:=Z hrok;have aF:rows.length<R.length:=J;have fP:=Z aN;have fj:((rows.length:Int)==(R.length:Int))=false:=by rw[Ai];omega
  have c0:w.cell? ⟨Bp,0,none⟩=some (.slice aa R.length ca):=bB.bp.cell 0;have c1:w.cell? ⟨Bp,1,none⟩=some (.slice ab C.length cb):=bB.bp.cell 1;have n9:=Z dL;have dT:=Z bR;have hK:=bB.hK;obtain⟨b,off,cpr,he,eI,-⟩:=Ha.o.qac J;obtain⟨rfl,-⟩:aa=some ⟨b,off,none⟩∧ca=cpr:=by simpa using he
  obtain⟨u,aW,hu⟩:=Sl.at Ha.o (BO [] aF);have nD:=bB.base.mono hn;have hu:Au W0 u (R.getD rows.length []):=hu;have Hu:=Z (hu.keep nD);rw[←nD.cell (p:=⟨b,off+rows.length,none⟩) eI]at aW;obtain⟨q1,q2,rfl,-⟩:=hu;obtain⟨rs,hrs⟩:∃rs,rs=R.getD rows.length []:=⟨_,rfl⟩;rw[←hrs]at aW Hu;have Hrs:=Z hrs;obtain⟨L,hL⟩:∃L,L=BC rs C.length:=⟨_,rfl⟩;have HL:=Z hL;have m7:L.length≤6:=by rw[hL];exact PA rm rs
  clear ih bB hrok aN dL bR nD he hrs hL;go_enter Tryz.func177,Tryz.ntmps177
  go_upto_region 4 with(fail)
  go_cut [38,39,40] (fun s38 s39 s40 wx=>∃aL cL,s38=.slice aL L.length cL∧s39=.int .i64 L.length∧s40=.int .i64 0∧Hid (Ag 32 (Ag 3 Ap) (Iv w.heap.size wx.heap.size) wx (.slice aL L.length cL) L)∧Hid (Below w.heap.size w wx))
  case first=>
   go_region_with (go_at_call 179;refine(Ru _ rs C.length _ (by exact Hu.o) hC1 rm).mono ?_;rintro e w1 ⟨v1,rfl,o1,b1⟩;rw[←HL.o]at o1;obtain⟨aL,cL,rfl,-⟩:=id o1.qag)
   all_goals go_wp2_with fail
   all_goals go_meet
   all_goals exact⟨_,_,rfl,rfl,rfl,by exact o1,⟨b1.os,b1.tape,b1.output,b1.size,b1.block⟩⟩
  case rest=>
   obtain⟨aL,cL,rfl,rfl,rfl,iH,HbL⟩:=hcut;obtain⟨wl,rfl⟩:∃wl,wl=wc:=⟨_,rfl⟩;have oC:=HbL.o.size;have HstL:=Z (aG.o.keep Wf.o HbL.o);have qq:L.length≤9223372036854775807:=J;clear c0 c1 aW;go_wp2;go_loopw [40] (fun i wr=>∃k:Nat,k≤L.length∧i=.int .i64 k∧∃vm' Sm' vo' So',Hid (YC n Bp Bm Bo Bf K (.slice (some ⟨b,off,none⟩) R.length ca) (.slice ab C.length cb) (.func (.func 177) #[] #[.pointer (some ⟨Bp,0,none⟩),.pointer (some ⟨Bm,0,none⟩),.pointer (some ⟨Bo,0,none⟩),.pointer (some ⟨Bf,0,none⟩)]) W0 wr vm' vals Sm' vo' (out++De R C f rows L k) So')∧Hid (∀b,Sm' b→Sm b∨wl.heap.size≤b)∧Hid (∀b,So' b→So b∨wl.heap.size≤b)∧Hid (AO (Wr Sm So Bm Bo) wl wr)) (fun i _=>L.length-(intOf i).toNat);exact⟨0,A7 _,rfl,_,_,_,_,by rw[Nl,List.append_nil];exact HstL.o,fun b hb=>.inl hb,fun b hb=>.inl hb,AO.refl _ _⟩;obtain⟨k,hk,rfl,vm',Sm',vo',So',Hs,HSm,HSo,Ho⟩:=hrel;obtain⟨wo,rfl⟩:∃wo:World,wo=wr:=⟨_,rfl⟩;have xX:=Ho.o.size;by_cases hltk:k<L.length
   ·obtain⟨l,hl⟩:∃l,L[k]? =some l:=⟨_,A3 hltk⟩;obtain⟨gL,capL,heL,-⟩:=iH.o.qac J;simp only[Value.slice.injEq,true_and]at heL;obtain⟨rfl,cP⟩:=heL;subst cP;have gF:Ag 32 (Ag 3 Ap) (Iv w.heap.size wl.heap.size) wo (.slice (some ⟨gL,0,none⟩) L.length cL) L:=Ag.only (Ab A8) iH.o Ho.o (fun b hb=>hb.2) (fun b hb hc=>by
     rcases hc with h|h|h|h
     ·have:=(aG.o.hm b h).1.2;have:=hb.1;omega
     ·have:=(aG.o.ho b h).2;have:=hb.1;omega
     ·subst h;have:=Wf.o.h4;have:=Wf.o.h5;have:=hb.1;omega
     ·subst h;have:=hb.1;omega)
    obtain⟨-,-,-,-,T,uk,aH,eH,hT,-⟩:=gF.qal (Ab A8) hl;have vk:=eH.sl (fun _ _ _ _ h=>h) A8;obtain⟨y1,y2,y3,rfl⟩:=eH.shape;have Hsl2:=Z vk;have HT:=Z hT;have Hl:=Z hl;have c2:wo.cell? ⟨Bm,0,none⟩=some vm':=Hs.o.bm.cell 0;have hvl:vals.length=rows.length:=rn.o.1;have hvl5:vals.length<1099511627776:=J;obtain⟨m1,m2,m3,rfl⟩:=Hs.o.om.shape;have Hom:=Z Hs.o.om;have hBmK:Bm<K:=by have:=Wf.o.h4;have:=Wf.o.h5;omega
    have vn:=Z (show ¬(Value.slice m1 m2 m3).ownBlock=some Bm from fun he=>by have:=(Hs.o.hm Bm (Hs.o.om.qae Bm he)).1.1;omega);have Hvl:=Z hvl;have hKo:=Hs.o.hK;have vp:Bm<wo.heap.size:=J;clear gF eH hT hl vk hvl;go_wp2_with (first|(at_builtin;(refine GM rfl _ _ 31 rfl Xl 32 Tryz.underlying31 EI rfl Jq Sm' (fun _=>False) (fun b=>Sm' b∨wo.heap.size≤b) _ _ vals (.slice y1 y2 y3) rfl rfl (by exact Hom.o) (by exact⟨rfl,rfl⟩) (fun _ _ h=>h) (fun b hb=>(Hs.o.hm b hb).1.2) (fun _ h=>h.elim) (fun _ h=>.inl h) (fun _ h=>h.elim) (fun b h=>.inr (Nat.le_of_lt h)) hvl5 ?_);intro v2 w2 hown2 honly2;obtain⟨z1,z2,z3,rfl⟩:=hown2.shape;have d1:=(honly2.cell (p:=⟨Bm,0,none⟩) vp vn.o).trans c2;have d2:=(honly2.frozen (p:=⟨Bm,0,none⟩) vp vn.o).trans (Hs.o.bm.frozen 0);have kW:=(Hs.o.push Wf.o hown2 honly2).1.bf.cell 0)|fail);obtain⟨s3,O3⟩:=Hs.o.push Wf.o hown2 honly2;have hs2:=honly2.size;obtain⟨w3,hw3⟩:∃w3,w3=w2.setCell ⟨Bm,0,none⟩ (.slice z1 z2 z3):=⟨_,rfl⟩;have fF:w3.heap.size=w2.heap.size:=by rw[hw3,As]
    rw[←hw3]at s3 O3 kW⊢;have hr1:IM (Wr Sm So Bm Bo) wl vals rows:=rn.o.go (AO.qaj HbL.o _) (fun b hb=>.inl hb);have eH:IM (Wr Sm' So' Bm Bo) wo vals rows:=hr1.go Ho.o (MS HSm.o HSo.o);have hr3:IM (Wr (fun b=>(Sm' b∨wo.heap.size≤b)∧b<w2.heap.size) So' Bm Bo) w3 vals rows:=eH.go O3 (MS (fun b hb=>hb.1) (fun b hb=>.inl hb));have hr4:=hr3.snoc (v:=.slice y1 y2 y3) (x:=l) (by
     refine(Cd A8).mono ?_ ((Cd A8).same (fun b hb=>O3.block b (by have:=(HT.o b hb).1.2;omega) ?_) Hsl2.o)
     ·intro b hb;have h1:=(HT.o b hb).1.1;have h2:=(HT.o b hb).1.2;refine⟨J,?_⟩;rintro(h|h|h|h)
      ·rcases h.1 with h5|h5
       ·rcases HSm.o b h5 with h6|h6
        ·have:=(aG.o.hm b h6).1.2;omega
        ·omega
       ·omega
      ·rcases HSo.o b h with h6|h6
       ·have:=(aG.o.ho b h6).2;omega
       ·omega
      ·omega
      ·omega
     ·have h1:=(HT.o b hb).1.1;have h2:=(HT.o b hb).1.2;rintro(h|h|h|h)
      ·rcases HSm.o b h with h6|h6
       ·have:=(aG.o.hm b h6).1.2;omega
       ·omega
      ·rcases HSo.o b h with h6|h6
       ·have:=(aG.o.ho b h6).2;omega
       ·omega
      ·omega
      ·omega)
    have gt:(out++De R C f rows L k).length+6^f≤1099511627775:=by
     have h1:=Pb (R:=R) rm f rows L k;have h2:(k+1)*6^f≤6*6^f:=Nat.mul_le_mul_right _ J;have h3:=dT.o;rw[Nat.pow_succ]at h3;rw[Nat.succ_mul]at h2;rw[Ad];omega
    have hIH:=IH.o _ _ _ _ _ _ _ _ s3 hr4 (n9.o.snoc (rs:=rs) (by rw[←HL.o];exact A4 Hl.o)) (by rw[Ad,List.length_singleton];have:=fP.o;omega) gt;rw[show(((rows++[l]).length:Nat):Int)=(rows.length:Int)+1 from by rw[Ad,List.length_singleton];omega]at hIH;have O3':=Z O3;clear hr1 eH hr3 hr4 s3 O3 hown2 honly2 d1 d2 c2 aH kW hw3 gt;refine hIH.mono ?_;rintro e w4 ⟨rfl,vm4,Sm4,vo4,So4,st4,hSm4,hSo4,O4⟩;obtain⟨g,cap,rfl,ae,st5,O5⟩:=st4.pop Wf.o;have d3:w4.cell? ⟨Bm,0,none⟩=some (.slice (some ⟨g,0,none⟩) (vals.length+1) cap):=st4.bm.cell 0;have d4:=st4.bm.frozen 0;rw[Hvl.o]at d3 ae st5 O5;have hw4:=O4.size;have vq:∀b,So4 b→So' b∨wo.heap.size≤b:=fun b hb=>(hSo4 b hb).imp id (fun h=>by omega);have vt:∀b,Sm4 b→Sm' b∨wo.heap.size≤b:=fun b hb=>(hSm4 b hb).elim (fun h=>h.1) (fun h=>.inr J);have vu:=Z (show ∀b,Sm4 b→Sm b∨wl.heap.size≤b from fun b hb=>(vt b hb).elim (fun h=>HSm.o b h) (fun h=>.inr J));have vv:=Z (show ∀b,So4 b→So b∨wl.heap.size≤b from fun b hb=>(vq b hb).elim (fun h=>HSo.o b h) (fun h=>.inr J));have H5:=Z (((Ho.o.qai (O3'.o.mono fun b hb _=>MS HSm.o HSo.o b hb)).qai (O4.mono fun b hb _=>(MS (Sm:=Sm') (So:=So') (n:=wo.heap.size) (fun b hb=>hb.1) (fun b hb=>.inl hb) b hb).elim (fun h=>MS HSm.o HSo.o b h) (fun h=>.inr J))).qai (O5.mono fun b hb _=>MS vu.o vv.o b hb));have H6:=Z st5;have kE:=Z (Nu (R:=R) (C:=C) (f:=f) (rows:=rows) Hl.o);clear hIH st4 hSm4 hSo4 O4 st5 O5 vq vt;go_wp2;go_roundw
    case rel=>
     exact⟨k+1,J,by go_num,_,Sm4,vo4,So4,by rw[kE.o,←List.append_assoc];exact H6.o,vu.o,vv.o,H5.o⟩
    case measure=>exact Jv
   ·have aU:=Z (show De R C f rows L k=Dr R C (f+1) rows from P3 (by rw[HL.o,Hrs.o]) J);have dM:decide ((k:Int)<(L.length:Int))=false:=by simp;omega
    have H5:=Z ((AO.qaj HbL.o (Wr Sm So Bm Bo)).qai (Ho.o.mono fun b hb _=>.inl hb));go_wp2;refine bodyPost_end (results_none rfl _ _ _) rfl ⟨rfl,?_⟩;exact⟨vm',Sm',vo',So',by rw[←aU.o];exact Hs.o,fun b hb=>(HSm.o b hb).imp id (fun h=>by omega),fun b hb=>(HSo.o b hb).imp id (fun h=>by omega),H5.o⟩
theorem Wm{f:Nat}(h:f≤5):6^f≤7776:=by
 have:=Nat.pow_le_pow_right (n:=6) Jq h;simpa using this
theorem TD(R C:I):(DA R C).length≤7776:=by
 cases h:Bv R C
 ·rw[KR h];simp
 ·rw[JW h];obtain⟨-,h2,-,h4⟩:=FO h;exact Aj (Rs h4 _ _) (Wm h2)
theorem TM(a b:Value)(R C:I)(w:World)(h1:AI w a R)(h2:AI w b C)(fJ:∀r∈R,r.length≤1048576)(jT:∀r∈C,r.length≤1048576):
  Calls Tryz.prog 117 #[.agg #[a,b]] w fun e w'=>∃v',e=.returned (.tuple #[v',.bool (Bv R C)])∧Ag 31 (Ag 32 (Ag 3 Ap)) (Iv w.heap.size w'.heap.size) w' v' (DA R C)∧Below w.heap.size w w':=by
 have e8:=Z fJ;have nE:=Z jT;have H1:=Z h1;have H2:=Z h2;obtain⟨aa,ca,rfl,-⟩:=id h1;obtain⟨ab,cb,rfl,-⟩:=id h2;obtain⟨W1,hW1⟩:∃W1,W1=w.alloc (.cells #[.slice aa R.length ca,.slice ab C.length cb] 85):=⟨_,rfl⟩;have dV:Below w.heap.size w W1:=by rw[hW1];exact Below.qab _ _
 have iz:W1.heap.size=w.heap.size+1:=by rw[hW1];simp
 have kB:B9 W1 w.heap.size #[.slice aa R.length ca,.slice ab C.length cb] 85:=by rw[hW1];exact B9.new _ _ _
 have G1:=Z (h1.keep dV);have G2:=Z (h2.keep dV);have cN:=Z dV;have iJ:=Z kB;have e9:=Z iz;clear h1 h2 fJ jT dV iz kB;cases hok:Bv R C
 ·have Hr:=Z (KR hok);have aR:=Z hok;clear hok;go_enter Tryz.func117,Tryz.ntmps117;subst hW1;go_wp2_with fail;refine(Lb _ _ _ _ _ G1.o G2.o e8.o nE.o).mono ?_;rintro e w2 ⟨rfl,hw2⟩;have b2:=cN.o.qaa (show Below _ _ w2 from by rw[hw2];exact Below.qab _ _) (A2 _);rw[aR.o];clear hw2;go_wp2
  go_ret2
  exact⟨_,rfl,by rw[Hr.o];exact Ag.nil _ _ _ _,b2⟩
 obtain⟨hr1,hr5,hc1,hc5⟩:=FO hok;have Hr:=Z (JW hok);have aR:=Z hok;clear hok;go_enter Tryz.func117,Tryz.ntmps117;subst hW1;go_wp2_with fail;refine(Lb _ _ _ _ _ G1.o G2.o e8.o nE.o).mono ?_;rintro e w2 ⟨rfl,hw2⟩;have b2:Below (w.alloc (.cells #[.slice aa R.length ca,.slice ab C.length cb] 85)).heap.size (w.alloc (.cells #[.slice aa R.length ca,.slice ab C.length cb] 85)) w2:=by rw[hw2];exact Below.qab _ _
 rw[aR.o];clear hw2;have ej:=Z (cN.o.qaa b2 (A2 _));have fX:=Z (iJ.o.keep b2);have mA:w.heap.size<w2.heap.size:=by have:=b2.size;rw[e9.o]at this;omega
 clear b2 G1 G2 cN iJ e9;obtain⟨F,hF⟩:∃F:Value,F=.func (.func 177) #[] #[.pointer (some ⟨w.heap.size,0,none⟩),.pointer (some ⟨w2.heap.size+1,0,none⟩),.pointer (some ⟨w2.heap.size,0,none⟩),.pointer (some ⟨w2.heap.size+1+1,0,none⟩)]:=⟨_,rfl⟩;obtain⟨W6,hW6⟩:∃W6,W6=((w2.alloc (.cells #[.slice none 0 0] 77)).alloc (.cells #[.slice none 0 0] 31)).alloc (.cells #[F] 138):=⟨_,rfl⟩;have p9:Below w2.heap.size w2 W6:=by rw[hW6];exact(((A6 _ _).alloc (A2 _) _).alloc Jj _).alloc (by simp;omega) _
 have z6:W6.heap.size=w2.heap.size+3:=by rw[hW6];simp
 have wf:SWf w.heap.size w.heap.size (w2.heap.size+1) w2.heap.size (w2.heap.size+1+1) (w2.heap.size+3):=⟨A2 _,J,J,J,J⟩;have bB:YC w.heap.size w.heap.size (w2.heap.size+1) w2.heap.size (w2.heap.size+1+1) (w2.heap.size+3) (.slice aa R.length ca) (.slice ab C.length cb) F w W6 (.slice none 0 0) [] (fun _=>False) (.slice none 0 0) [] (fun _=>False):=by
  refine⟨ej.o.qaa p9 (A2 _),fX.o.keep p9,?_,?_,?_,Ag.nil _ _ _ _,Ag.nil _ _ _ _,fun _ h=>h.elim,fun _ h=>h.elim,J⟩
  ·rw[hW6];have h1:=B9.new (w2.alloc (.cells #[.slice none 0 0] 77)) #[.slice none 0 0] 31;have h2:=h1.keep (Below.qab _ (.cells #[F] 138));simpa using h2
  ·rw[hW6];exact(((B9.new w2 _ _).keep (Below.qab _ _)).keep (Below.qab _ _))
  ·rw[hW6];have:=B9.new ((w2.alloc (.cells #[.slice none 0 0] 77)).alloc (.cells #[.slice none 0 0] 31)) #[F] 138;simpa using this
 have hp6:=Wm hr5;have lA:=A4l wf hF (A2 _) (A2 _) H1.o H2.o hr1 hr5 hc1 hc5 R.length [] [] _ _ _ _ [] W6 bB ⟨rfl,fun k v x h _=>by simp at h⟩ (fun row hr=>by cases hr) Jj (by simp;omega);have c6:W6.cell? ⟨w2.heap.size+1+1,0,none⟩=some F:=bB.bf.cell 0;have qG:=Z lA;have nw:=Z (ej.o.qaa p9 (A2 _));clear lA bB p9 wf z6;subst hF;subst hW6;go_wp2_with fail;refine(qG.o).mono ?_;rintro e w7 ⟨rfl,vm',Sm',vo',So',st7,hSm,hSo,hO⟩;have c7:w7.cell? ⟨w2.heap.size,0,none⟩=some vo':=st7.bo.cell 0;have eZ:=Z st7.oo;have Hho:=Z st7.ho;have mB:=Z st7.base;clear st7 hSm hSo hO;go_wp2
 go_ret2
 refine⟨vo',rfl,?_,mB.o⟩;rw[Hr.o];have h:=eZ.o;rw[List.nil_append]at h;exact(Ab (Ab (Ab A8))).mono (fun b hb=>⟨by have:=(Hho.o b hb).1;omega,(Hho.o b hb).2⟩) h
theorem Ri{β:Type}(f:α→β){l:List α}{k:Nat}{x:α}(h:l[k]? =some x):(l.take (k+1)).map f=(l.take k).map f++[f x]:=by
 rw[Ao,h];simp
theorem Kc(m:I):(AD m).size≤1048576:=by
 unfold AD
 split
 ·rename_i hok
  have h2:=(Fr hok).bulk;have h3:=Es ⟨#[47]⟩ (m.map Bu);unfold EQ;omega
 ·simp
def Ci(xs:List I):List ByteArray:=xs.map AD
theorem L7(xs:List I):(Ci xs).length=xs.length:=Ay _
theorem Ag.strs{xs:List ByteArray}(h:Ag E Km S w v xs):CX w v xs:=(Cd CK).rd (h.sl (fun _ _ _ _ h=>h) CK)
theorem Oh(v:Value)(l:List I)(w:World)(hv:Gv w v l)(hl:l.length≤1073741824):Calls Tryz.prog 49 #[v] w (N7 9 Km w (Ci l)):=by
 have Hv:=Z hv;obtain⟨a,cap0,rfl,-⟩:=hv;go_enter Tryz.func49,Tryz.ntmps49;go_wp2;go_loopw [3,5,8] (fun v _ i wr=>∃k:Nat,k≤l.length∧i=.int .i64 k∧Ag 9 Km (Iv w.heap.size wr.heap.size) wr v ((l.take k).map AD)∧Below w.heap.size w wr) (fun _ _ i _=>l.length-(intOf i).toNat);exact⟨0,A7 _,rfl,Ag.nil _ _ _ _,A6 _ _⟩;obtain⟨k,hk,rfl,aB,aA⟩:=hrel;obtain⟨wo,rfl⟩:∃wo:World,wo=wr:=⟨_,rfl⟩;have bD:=aA.size;by_cases aF:k<l.length
 ·obtain⟨x,hx⟩:∃x,l[k]? =some x:=⟨_,A3 aF⟩;obtain⟨b,off,cpr,he,hb,-⟩:=Hv.o.qac J;obtain⟨rfl,-⟩:a=some ⟨b,off,none⟩∧cap0=cpr:=by simpa using he
  obtain⟨u,aW,hu⟩:=Sl.at Hv.o hx;have hu:AI w u x:=hu;have Hu:=Z (hu.keep aA);rw[←aA.cell (p:=⟨b,off+k,none⟩) hb]at aW;have aG:=Z (Ri AD hx);have au:((l.take k).map AD).length<1099511627776:=by simp;omega
  obtain⟨p1,p2,p3,rfl⟩:=aB.shape;have aC:=Z aB;clear hx aB he hu;go_wp2_with fail;refine(Fw _ x _ Hu.o).mono ?_;rintro e w1 ⟨rfl,dK⟩;have cQ:wo.heap.size≤w1.heap.size:=dK.size;have aM:(AD x).size≤9223372036854775807:=by have:=Kc x;omega
  go_wp2_with (first|(at_builtin;(refine AH rfl _ _ 27 rfl CK 9 Tryz.underlying27 Gi rfl Jq w.heap.size wo.heap.size bD cQ rfl rfl (by exact Ag.keep CK aC.o dK (A2 _)) (by exact⟨rfl,aM⟩) au ?_);intro v2 w2 hown2 hbel2 _)|fail);have af:=(aA.trans (dK.mono bD)).trans hbel2;have aX:=Z hown2;clear hown2;go_wp2;go_roundw;exact⟨k+1,J,by go_num,by rw[aG.o];exact aX.o,af⟩;exact Jv
 ·have aE:=aB;rw[A9 J]at aE;obtain⟨p1,p2,p3,rfl⟩:=aB.shape;have aU:=Z aE;clear aB aE;go_wp2
  go_ret
  exact⟨_,rfl,aU.o,aA⟩
theorem Og(v:Value)(l:List I)(w:World)(hv:Gv w v l)(hl:l.length≤1073741824):Calls Tryz.prog 130 #[v] w (N7 9 Km w (Ci l)):=by
 have Hv:=Z hv;obtain⟨a,cap0,rfl,-⟩:=hv;go_enter Tryz.func130,Tryz.ntmps130;go_wp2;go_loopw [3,5,9] (fun v _ i wr=>∃k:Nat,k≤l.length∧i=.int .i64 k∧Ag 9 Km (Iv w.heap.size wr.heap.size) wr v ((l.take k).map AD)∧Below w.heap.size w wr) (fun _ _ i _=>l.length-(intOf i).toNat);exact⟨0,A7 _,rfl,BK _ _ _ CK,Below.qab _ _⟩;obtain⟨k,hk,rfl,aB,aA⟩:=hrel;obtain⟨wo,rfl⟩:∃wo:World,wo=wr:=⟨_,rfl⟩;have bD:=aA.size;by_cases aF:k<l.length
 ·obtain⟨x,hx⟩:∃x,l[k]? =some x:=⟨_,A3 aF⟩;obtain⟨b,off,cpr,he,hb,-⟩:=Hv.o.qac J;obtain⟨rfl,-⟩:a=some ⟨b,off,none⟩∧cap0=cpr:=by simpa using he
  obtain⟨u,aW,hu⟩:=Sl.at Hv.o hx;have hu:AI w u x:=hu;have Hu:=Z (hu.keep aA);rw[←aA.cell (p:=⟨b,off+k,none⟩) hb]at aW;have aG:=Z (Ri AD hx);have au:((l.take k).map AD).length<1099511627776:=by simp;omega
  obtain⟨p1,p2,p3,rfl⟩:=aB.shape;have aC:=Z aB;clear hx aB he hu;go_wp2_with fail;refine(EK _ x _ Hu.o).mono ?_;rintro e w1 ⟨rfl,dK⟩;have cQ:wo.heap.size≤w1.heap.size:=dK.size;have aM:(AD x).size≤9223372036854775807:=by have:=Kc x;omega
  go_wp2_with (first|(at_builtin;(refine AH rfl _ _ 27 rfl CK 9 Tryz.underlying27 Gi rfl Jq w.heap.size wo.heap.size bD cQ rfl rfl (by exact Ag.keep CK aC.o dK (A2 _)) (by exact⟨rfl,aM⟩) au ?_);intro v2 w2 hown2 hbel2 _)|fail);have af:=(aA.trans (dK.mono bD)).trans hbel2;have aX:=Z hown2;clear hown2;go_wp2;go_roundw;exact⟨k+1,J,by go_num,by rw[aG.o];exact aX.o,af⟩;exact Jv
 ·have aE:=aB;rw[A9 J]at aE;obtain⟨p1,p2,p3,rfl⟩:=aB.shape;have aU:=Z aE;clear aB aE;go_wp2
  go_ret
  exact⟨_,rfl,aU.o,aA⟩
theorem ZJ:(Tryz.prog.info? 31).map (fun i=>(i.zero,i.size,i.bytes))=some (some (.slice none 0 0),1,24):=by kernel_rfl
def A4Q(S:Bk)(w:World)(out:List I)(e:Ending)(w':World):Prop:=
 ∃v' S',e=.returned v'∧Ag 31 (Ag 32 (Ag 3 Ap)) S' w' v' out∧(∀b,S' b→(S b∨w.heap.size≤b)∧b<w'.heap.size)∧AO S w w'
theorem A2j{n0:Nat}{R:I}(ia:R.length≤5)(hC1:1≤C.length)(rm:C.length≤5)(f:Nat):
  ∀(a b vo vd:Value)(rows:I)(S:Bk)(out:List I)(w:World),Sl (Sl Ap) (fun b=>b<n0) w a R→Sl (Sl Ap) (fun b=>b<n0) w b C→n0≤w.heap.size→(∀b,S b→n0≤b∧b<w.heap.size)→
   Ag 31 (Ag 32 (Ag 3 Ap)) S w vo out→Sl (Sl Ap) (fun b=>b<w.heap.size∧¬S b) w vd rows→X7 C.length rows→rows.length+f=R.length→out.length+6^f≤1099511627775→
   Calls Tryz.prog 268 #[vo,vd,.agg #[a,b]] w (A4Q S w (out++Dr R C f rows)):=by
 induction f with
 |zero=>
  intro a b vo vd rows S out w ha hb dS hS ho hd dL aN bR;have Ha:=Z ha;have Hb:=Z hb;have Hd:=Z hd;obtain⟨aa,ca,rfl,-⟩:=id ha;obtain⟨ab,cb,rfl,-⟩:=id hb;obtain⟨ad,cd,rfl,-⟩:=id hd;obtain⟨W1,hW1⟩:∃W1,W1=w.alloc (.cells #[.slice aa R.length ca,.slice ab C.length cb] 85):=⟨_,rfl⟩;have dV:Below w.heap.size w W1:=by rw[hW1];exact Below.qab _ _
  have kB:B9 W1 w.heap.size #[.slice aa R.length ca,.slice ab C.length cb] 85:=by rw[hW1];exact B9.new _ _ _
  have c0:W1.cell? ⟨w.heap.size,0,none⟩=some (.slice aa R.length ca):=kB.cell 0;have fj:((rows.length:Int)==(R.length:Int))=true:=by rw[beq_iff_eq];omega
  have hlr:rows.length≤R.length:=J;have hlr2:R.length≤rows.length:=J;have nk:=Z (AI.keep ((Cd (Cd A8)).mono (fun b hb=>hb.1) hd) dV);have sV:=Z (show AI w _ C from(Cd (Cd A8)).mono (S':=fun b=>b<w.heap.size) (fun b hb=>Aa hb dS) hb);have cN:=Z dV;have iJ:=Z kB;have HS:=Z hS;have eZ:=Z ho;have n9:=Z dL;have dT:=Z bR;obtain⟨o1,o2,o3,rfl⟩:=ho.shape;clear ha hb hd dV kB hS ho dL aN bR;go_enter Tryz.func268,Tryz.ntmps268;subst hW1;go_wp2_with fail;refine(KS 136 (.inr rfl) _ rows _ nk.o).mono ?_;rintro e w2 ⟨a2,b2,rfl,op,af⟩;obtain⟨⟨p1,p2,p3,rfl⟩,⟨q1,q2,q3,rfl⟩⟩:=op.shape;have HGx:=Z op.reads.2;have eI:=cN.o.qaa af (A2 _);have e1:(w2.alloc (.cells #[.slice p1 p2 p3,.slice q1 q2 q3] 85)).cell? ⟨w.heap.size,1,none⟩=some (.slice ab C.length cb):=((iJ.o.keep af).keep (Below.qab _ _)).cell 1;have lR:=Z eI;clear op af eI c0;go_wp2_with fail;refine(Nq _ _ (DV rows) C _ (HGx.o.keep (Below.qab _ _)) ((sV.o.keep lR.o).keep (Below.qab _ _))).mono ?_;rintro e w3 ⟨rfl,b3⟩;have bN:=Z ((lR.o.qaa (Below.qab _ _) (A2 _)).qaa b3 (A2 _));clear b3 e1;by_cases hq:DV rows=C
  ·have eA:=Z (show Dr R C 0 rows=[rows]from by unfold Dr;rw[if_pos hq]);rw[decide_eq_true hq];clear hq;have bF:rows.length≤1048576:=J;have HR:=Z (show ∀p∈rows,p.length≤1048576 from fun p hp=>by have:=(n9.o p hp).1;omega);have nX:=Z (AI.keep ((Cd (Cd A8)).mono (fun b hb=>hb.1) Hd.o) bN.o);have fg:out.length<1099511627776:=Nat.lt_of_le_of_lt (Aj (Nat.le_add_right _ _) dT.o) Jq;go_wp2_with fail;refine(D5 _ rows _ (by exact nX.o) bF HR.o).mono ?_;rintro e w4 ⟨v4,rfl,o4,b4⟩;obtain⟨r1,r2,r3,rfl⟩:=o4.shape;have d7:=bN.o.size;have l7:=b4.size;have eN:=Z (bN.o.qaa b4 (A2 _));have fQ:=Z o4;have fO:=Z (Below.qab w4 (.cells #[.slice r1 r2 r3] 31));have Hk:=Z (B9.new w4 #[.slice r1 r2 r3] 31);have m9:=Z ((Ab (Ab (Ab A8))).same (Ac (eN.o.qaa fO.o (A2 _)) fun b hb=>(HS.o b hb).2) eZ.o);have zS:=Z ((Ab (Ab A8)).same (Ac fO.o fun b hb=>hb.2) fQ.o);have fG:(w4.alloc (.cells #[.slice r1 r2 r3] 31)).heap.size=w4.heap.size+1:=Jj;have qr:=Z fG;clear o4 b4 fG;go_wp2_with (first|(at_builtin;refine F6 rfl _ _ 77 rfl (Ab (Ab A8)) 31 Tryz.underlying77 ZJ rfl Jq S (Iv w3.heap.size w4.heap.size) rfl rfl (by exact Hk.o.cell 0) (by exact m9.o) (by exact zS.o) (fun b h1 h2=>by have:=(HS.o b h1).2;have:=h2.1;omega) (fun b h1=>by have:=(HS.o b h1).2;have:=qr.o;omega) (fun b h1=>by have:=h1.2;have:=qr.o;omega) fg ?_;intro v6 w6 o6 h6;obtain⟨x1,x2,x3,rfl⟩:=o6.shape)|fail);have lB:=Z o6;have H6:=Z h6;clear o6 h6;go_wp2
   go_ret
   refine⟨_,_,rfl,by rw[eA.o];exact lB.o,fun b hb=>?_,?_⟩
   ·refine⟨?_,hb.2⟩;rcases hb.1 with h|h|h
    ·exact .inl h
    ·exact .inr (by have:=h.1;omega)
    ·exact .inr (by have:=qr.o;omega)
   ·have h1:AO S w (w4.alloc (.cells #[.slice r1 r2 r3] 31)):=AO.qaj (eN.o.qaa fO.o (A2 _)) S;exact h1.qai (H6.o.mono fun b hb _=>.inl (m9.o.qae b hb))
  ·have eA:=Z (show Dr R C 0 rows=[]from by unfold Dr;rw[if_neg hq]);rw[decide_eq_false hq];clear hq;go_wp2
   go_ret
   have d7:=bN.o.size;exact⟨_,S,rfl,by rw[eA.o,List.append_nil];exact(Ab (Ab (Ab A8))).same (Ac bN.o fun b hb=>(HS.o b hb).2) eZ.o,fun b hb=>⟨.inl hb,Aa (HS.o b hb).2 d7⟩,AO.qaj bN.o S⟩
 |succ f ih=>
  intro a b vo vd rows S out w ha hb dS hS ho hd dL aN bR;have IH:=Z ih;have Ha:=Z ha;have Hb:=Z hb;have Hd:=Z hd;have aF:rows.length<R.length:=J;obtain⟨ba,offa,ca,rfl,hba0,-⟩:=ha.qac J;obtain⟨ab,cb,rfl,-⟩:=id hb;obtain⟨ad,cd,rfl,-⟩:=id hd;obtain⟨W1,hW1⟩:∃W1,W1=w.alloc (.cells #[.slice (some ⟨ba,offa,none⟩) R.length ca,.slice ab C.length cb] 85):=⟨_,rfl⟩;have dV:Below w.heap.size w W1:=by rw[hW1];exact Below.qab _ _
  have kB:B9 W1 w.heap.size #[.slice (some ⟨ba,offa,none⟩) R.length ca,.slice ab C.length cb] 85:=by rw[hW1];exact B9.new _ _ _
  have iz:W1.heap.size=w.heap.size+1:=by rw[hW1];simp
  have c0:W1.cell? ⟨w.heap.size,0,none⟩=some (.slice (some ⟨ba,offa,none⟩) R.length ca):=kB.cell 0;have c1:W1.cell? ⟨w.heap.size,1,none⟩=some (.slice ab C.length cb):=kB.cell 1;have fj:((rows.length:Int)==(R.length:Int))=false:=by rw[Ai];omega
  obtain⟨u,hck0,hu⟩:=Sl.at ha (BO [] aF);obtain⟨rs,hrs⟩:∃rs,rs=R.getD rows.length []:=⟨_,rfl⟩;rw[←hrs]at hu;have aW:=hck0;rw[←dV.cell (p:=⟨ba,offa+rows.length,none⟩) hba0]at aW;have Hu:=Z (Au.keep ((Cd A8).mono (S':=fun b=>b<w.heap.size) (fun b hb=>Aa hb dS) hu) dV);obtain⟨q1,q2,rfl,-⟩:=hu;have Hrs:=Z hrs;obtain⟨L,hL⟩:∃L,L=BC rs C.length:=⟨_,rfl⟩;have HL:=Z hL;have m7:L.length≤6:=by rw[hL];exact PA rm rs
  have cN:=Z dV;have iJ:=Z kB;have e9:=Z iz;have HS:=Z hS;have eZ:=Z ho;have n9:=Z dL;have dT:=Z bR;have fP:=Z aN;have po:=Z dS;obtain⟨o1,o2,o3,rfl⟩:=ho.shape;clear ih ha hb hd dV kB hS ho dL aN bR iz hrs hL hck0 dS;go_enter Tryz.func268,Tryz.ntmps268;subst hW1
  go_upto_region 6 with(fail)
  go_cut [42,43,44] (fun s42 s43 s44 wx=>∃aL cL,s42=.slice aL L.length cL∧s43=.int .i64 L.length∧s44=.int .i64 0∧Hid (Ag 32 (Ag 3 Ap) (Iv (w.heap.size+1) wx.heap.size) wx (.slice aL L.length cL) L)∧Hid (Below (w.heap.size+1) (w.alloc (.cells #[.slice (some ⟨ba,offa,none⟩) R.length ca,.slice ab C.length cb] 85)) wx))
  case first=>
   go_region_with (go_at_call 300;refine(RT _ rs C.length _ (by exact Hu.o) hC1 rm).mono ?_;rintro e w1 ⟨v1,rfl,o1',b1⟩;rw[←HL.o]at o1';obtain⟨aL,cL,rfl,-⟩:=id o1'.qag)
   all_goals go_wp2_with fail
   all_goals go_meet
   all_goals exact⟨_,_,rfl,rfl,rfl,(Ab (Ab A8)).mono (fun b hb=>⟨by rw[←e9.o];exact hb.1,hb.2⟩) o1',⟨b1.os,b1.tape,b1.output,b1.size,fun b hb=>b1.block b (by rw[←e9.o]at hb;exact hb)⟩⟩
  case rest=>
   obtain⟨aL,cL,rfl,rfl,rfl,iH,HbL⟩:=hcut;obtain⟨wl,rfl⟩:∃wl,wl=wc:=⟨_,rfl⟩;have oC:=HbL.o.size;have nF:=Z (cN.o.trans (HbL.o.mono (Nat.le_succ _)));have HkL:=Z (show B9 wl w.heap.size #[.slice (some ⟨ba,offa,none⟩) R.length ca,.slice ab C.length cb] 85 from(HbL.o.block _ (Nat.lt_succ_self _)).trans iJ.o);have nT:w.heap.size+1≤wl.heap.size:=by rw[e9.o]at oC;exact oC
   have qq:L.length≤9223372036854775807:=J;clear c0 c1 aW;go_wp2;go_loopw [0,44] (fun v i wr=>∃k:Nat,k≤L.length∧i=.int .i64 k∧∃S',Hid (Ag 31 (Ag 32 (Ag 3 Ap)) S' wr v (out++De R C f rows L k))∧Hid (∀b,S' b→(S b∨wl.heap.size≤b)∧b<wr.heap.size)∧Hid (AO S wl wr)) (fun _ i _=>L.length-(intOf i).toNat);exact⟨0,A7 _,rfl,S,by rw[Nl,List.append_nil];exact(Ab (Ab (Ab A8))).same (Ac nF.o fun b hb=>(HS.o b hb).2) eZ.o,fun b hb=>⟨.inl hb,by have:=(HS.o b hb).2;omega⟩,AO.refl _ _⟩;obtain⟨k,hk,rfl,S',Hs,HS',Ho⟩:=hrel;obtain⟨wo,rfl⟩:∃wo:World,wo=wr:=⟨_,rfl⟩;have xX:=Ho.o.size;obtain⟨s1,s2,s3,rfl⟩:=Hs.o.shape;have hnS:¬S w.heap.size:=fun h=>by have:=(HS.o _ h).2;omega
   have j9:=Z (HkL.o.only Ho.o hnS);have c0:wo.cell? ⟨w.heap.size,0,none⟩=some (.slice (some ⟨ba,offa,none⟩) R.length ca):=j9.o.cell 0;have c1:wo.cell? ⟨w.heap.size,1,none⟩=some (.slice ab C.length cb):=j9.o.cell 1;by_cases hltk:k<L.length
   ·obtain⟨l,hl⟩:∃l,L[k]? =some l:=⟨_,A3 hltk⟩;obtain⟨gL,capL,heL,-⟩:=iH.o.qac J;simp only[Value.slice.injEq,true_and]at heL;obtain⟨rfl,cP⟩:=heL;subst cP;have gF:Ag 32 (Ag 3 Ap) (Iv (w.heap.size+1) wl.heap.size) wo (.slice (some ⟨gL,0,none⟩) L.length cL) L:=(Ab (Ab A8)).same (fun b hb=>Ho.o.block b hb.2 fun h=>by have:=(HS.o b h).2;have:=hb.1;omega) iH.o;obtain⟨-,-,-,-,T,uk,aH,eH,hT,-⟩:=gF.qal (Ab A8) hl;obtain⟨y1,y2,y3,rfl⟩:=eH.shape;have dh:=Z eH;have HT:=Z hT;have Hl:=Z hl;have bF:rows.length≤1048576:=J;have HR:=Z (show ∀p∈rows,p.length≤1048576 from fun p hp=>by have:=(n9.o p hp).1;omega);have HdO:=Z (show Sl (Sl Ap) (fun b=>b<w.heap.size∧¬S b) wo _ rows from(Cd (Cd A8)).same (fun b hb=>Ho.o.block b (by have:=hb.1;omega) hb.2) ((Cd (Cd A8)).same (Ac nF.o fun b hb=>hb.1) Hd.o));have uG:=Z (show ∀W,Below wo.heap.size wo W→AI W _ rows from fun W hW=>AI.keep ((Cd (Cd A8)).mono (fun b hb=>Aa hb.1 J) HdO.o) hW);have HA:=Z ((Cd (Cd A8)).same (Ac nF.o fun b hb=>Aa hb po.o) Ha.o);have HB:=Z ((Cd (Cd A8)).same (Ac nF.o fun b hb=>Aa hb po.o) Hb.o);have bn:=Z (Below.qab wo (.cells #[.slice y1 y2 y3] 32));have cx0:=(bn.o.cell (p:=⟨w.heap.size,0,none⟩) j9.o.lt).trans c0;have cx1:=(bn.o.cell (p:=⟨w.heap.size,1,none⟩) j9.o.lt).trans c1;have fp:rows.length<1099511627776:=J;clear gF eH hT hl;go_wp2;have HA3:=Z (show ∀W,Below wo.heap.size wo W→Sl (Sl Ap) (fun b=>b<n0) W (.slice (some ⟨ba,offa,none⟩) R.length ca) R from fun W hW=>(Cd (Cd A8)).same (Ac hW fun b hb=>Aa hb (by have:=po.o;omega)) ((Cd (Cd A8)).same (fun b hb=>Ho.o.block b (Aa hb (by have:=po.o;omega)) (fun h=>by have:=(HS.o b h).1;have hb:b<n0:=hb;omega)) HA.o));have ji:=Z (show ∀W,Below wo.heap.size wo W→Sl (Sl Ap) (fun b=>b<n0) W (.slice ab C.length cb) C from fun W hW=>(Cd (Cd A8)).same (Ac hW fun b hb=>Aa hb (by have:=po.o;omega)) ((Cd (Cd A8)).same (fun b hb=>Ho.o.block b (Aa hb (by have:=po.o;omega)) (fun h=>by have:=(HS.o b h).1;have hb:b<n0:=hb;omega)) HB.o));have sJ:=Z (show ∀W:World,wo.heap.size≤W.heap.size→n0≤W.heap.size∧∀b,S' b→n0≤b∧b<W.heap.size from fun W hW=>⟨by have:=po.o;omega,fun b hb=>by
     have h2:=(HS'.o b hb).2;rcases(HS'.o b hb).1 with h|h
     ·exact⟨(HS.o b h).1,J⟩
     ·exact⟨by have:=po.o;omega,J⟩⟩)
    have tE:=Z (show ∀W,Below wo.heap.size wo W→Ag 31 (Ag 32 (Ag 3 Ap)) S' W (.slice s1 s2 s3) (out++De R C f rows L k)from fun W hW=>(Ab (Ab (Ab A8))).same (Ac hW fun b hb=>(HS'.o b hb).2) Hs.o);have Hbr3:=Z (n9.o.snoc (rs:=rs) (l:=l) (by rw[←HL.o];exact A4 Hl.o));have vz:=Z (show(rows++[l]).length+f=R.length from by rw[Ad,List.length_singleton];have:=fP.o;omega);have ma:=Z (show(out++De R C f rows L k).length+6^f≤1099511627775 from by
     have h1:=Pb (R:=R) rm f rows L k;have h2:(k+1)*6^f≤6*6^f:=Nat.mul_le_mul_right _ J;have h3:=dT.o;rw[Nat.pow_succ]at h3;rw[Nat.succ_mul]at h2;rw[Ad];omega)
    have uH:=Z (show ∀b,S' b→¬T b from fun b h1 h2=>by
     have h3:=(HT.o b h2).1;have h4:=h3.1;have h5:=h3.2;rcases(HS'.o b h1).1 with h|h
     ·have:=(HS.o b h).2;omega
     ·omega)
    have kE:=Z (Nu (R:=R) (C:=C) (f:=f) (rows:=rows) Hl.o);have gf:=Z (B9.new wo #[.slice y1 y2 y3] 32)
    go_region_law (first
     |(refine J2 (w:=w1.alloc (.cells #[.slice y1 y2 y3] 32)) (v:=.slice r1 r2 r3) (u:=.slice y1 y2 y3) (x:=l) (gb:=w1.heap.size) (c:=1) rfl (.tmp 50) (.tmp 52) 31 rfl (Ab A8) 32 Tryz.underlying31 Ku rfl Jq (Iv wo.heap.size w1.heap.size) T (by simp[Act.eval]) (by simp[Act.eval]) (by exact(B9.new w1 #[.slice y1 y2 y3] 32).cell 0) (by exact wA.o) (by exact wB.o) (fun b h1 h2=>by have:=h1.1;have:=(HT.o b h2).1.2;omega) (fun b h1=>Aa h1.2 kQ.o.size) (fun b h1=>Aa (HT.o b h1).1.2 wC) fp ?_;intro v3 w3 o3 h3;obtain⟨z1,z2,z3,rfl⟩:=o3.shape;have mb:Below wo.heap.size w1 w3:=(kQ.o.mono fI).trans (h3.below (Aj fI kQ.o.size) (fun b hb=>(fS.o.qae b hb).1));have B3:=Z (ki.o.trans mb);have jw:=B3.o.size;have d0:=(B3.o.cell (p:=⟨w.heap.size,0,none⟩) j9.o.lt).trans c0;have d1:=(B3.o.cell (p:=⟨w.heap.size,1,none⟩) j9.o.lt).trans c1;have HX:=Z (Aj fI kQ.o.size);have H3:=Z o3;have uK:=Z (show Sl (Sl Ap) (fun b=>b<w3.heap.size∧¬S' b) w3 (.slice z1 z2 z3) (rows++[l])from(Cd (Cd A8)).mono (fun b hb=>⟨hb.2,fun h=>(hb.1.elim (fun h1=>by have:=h1.1;have:=(HS'.o b h).2;omega) (fun h1=>h1.elim (fun h1=>uH.o b h h1) (fun h1=>by have:=(HS'.o b h).2;have:=HX.o;omega)))⟩) (H3.o.sl (fun _ _ _ _ h=>h.sl (fun _ _ _ _ h=>h) A8) (Cd A8)));clear o3 h3 mb)
     |(refine J2 (w:=w1) (v:=.slice r1 r2 r3) (u:=.slice y1 y2 y3) (x:=l) (gb:=wo.heap.size) (c:=1) rfl (.tmp 50) (.tmp 52) 31 rfl (Ab A8) 32 Tryz.underlying31 Ku rfl Jq (Iv wo.heap.size w1.heap.size) T (by simp[Act.eval]) (by simp[Act.eval]) (by exact jC.o.cell 0) (by exact fS.o) (by exact kZ.o) (fun b h1 h2=>by have:=h1.1;have:=(HT.o b h2).1.2;omega) (fun b h1=>h1.2) (fun b h1=>Aa (HT.o b h1).1.2 eJ) fp ?_;intro v3 w3 o3 h3;obtain⟨z1,z2,z3,rfl⟩:=o3.shape;
       have mb:Below wo.heap.size w1 w3:=h3.below fI (fun b hb=>(fS.o.qae b hb).1);
       have B3:=Z (ki.o.trans mb);have jw:=B3.o.size;have d0:=(B3.o.cell (p:=⟨w.heap.size,0,none⟩) j9.o.lt).trans c0;have d1:=(B3.o.cell (p:=⟨w.heap.size,1,none⟩) j9.o.lt).trans c1;have HX:=Z fI;have H3:=Z o3;have uK:=Z (show Sl (Sl Ap) (fun b=>b<w3.heap.size∧¬S' b) w3 (.slice z1 z2 z3) (rows++[l])from(Cd (Cd A8)).mono (fun b hb=>⟨hb.2,fun h=>(hb.1.elim (fun h1=>by have:=h1.1;have:=(HS'.o b h).2;omega) (fun h1=>h1.elim (fun h1=>uH.o b h h1) (fun h1=>by have:=(HS'.o b h).2;have:=HX.o;omega)))⟩) (H3.o.sl (fun _ _ _ _ h=>h.sl (fun _ _ _ _ h=>h) A8) (Cd A8)));clear o3 h3 mb)
     |(go_simp;go_at_call 122;refine(D5 _ rows _ (uG.o _ (by exact⟨rfl,rfl,rfl,A2 _,fun _ _=>rfl⟩)) bF HR.o).mono ?_;rintro e w1 ⟨v1,rfl,o1',b1⟩;obtain⟨r1,r2,r3,rfl⟩:=o1'.shape;have ki:=Z (show Below wo.heap.size wo w1 from⟨b1.os,b1.tape,b1.output,b1.size,b1.block⟩);have fS:=Z ((Ab (Ab A8)).mono (S':=Iv wo.heap.size w1.heap.size) (fun b hb=>⟨Aj (A2 _) hb.1,hb.2⟩) o1');have fI:=ki.o.size;have eJ:wl.heap.size≤w1.heap.size:=Aj xX fI;have kQ:=Z (Below.qab w1 (.cells #[.slice y1 y2 y3] 32));have wC:=Aj eJ kQ.o.size;have kZ:=Z ((Ab A8).same (Ac ki.o fun b hb=>by have:=(HT.o b hb).1.2;omega) dh.o);have wA:=Z ((Ab (E:=32) (Ab (E:=3) A8)).same (Ac kQ.o fun b hb=>hb.2) fS.o);have wB:=Z ((Ab A8).same (Ac kQ.o fun b hb=>by have:=(HT.o b hb).1.2;omega) kZ.o);have d0:=(ki.o.cell (p:=⟨w.heap.size,0,none⟩) j9.o.lt).trans c0;have d1:=(ki.o.cell (p:=⟨w.heap.size,1,none⟩) j9.o.lt).trans c1;have dx0:=(kQ.o.cell (p:=⟨w.heap.size,0,none⟩) (Aa j9.o.lt fI)).trans d0;have dx1:=(kQ.o.cell (p:=⟨w.heap.size,1,none⟩) (Aa j9.o.lt fI)).trans d1;clear o1' b1)
     |(go_simp;go_at_call 122;refine(D5 _ rows _ (uG.o _ (by exact⟨bn.o.os,bn.o.tape,bn.o.output,bn.o.size,bn.o.block⟩)) bF HR.o).mono ?_;rintro e w1 ⟨v1,rfl,o1',b1⟩;obtain⟨r1,r2,r3,rfl⟩:=o1'.shape;have jC:=Z (show B9 w1 wo.heap.size #[.slice y1 y2 y3] 32 from gf.o.keep ⟨b1.os,b1.tape,b1.output,b1.size,b1.block⟩);have ki:=Z (show Below wo.heap.size wo w1 from bn.o.trans (Below.mono ⟨b1.os,b1.tape,b1.output,b1.size,b1.block⟩ bn.o.size));have fS:=Z ((Ab (Ab A8)).mono (S':=Iv wo.heap.size w1.heap.size) (fun b hb=>⟨Aj (bn.o.size) hb.1,hb.2⟩) o1');have fI:=ki.o.size;have eJ:wl.heap.size≤w1.heap.size:=Aj xX fI;have kQ:=Z (Below.qab w1 (.cells #[.slice y1 y2 y3] 32));have wC:=Aj eJ kQ.o.size;have kZ:=Z ((Ab A8).same (Ac ki.o fun b hb=>by have:=(HT.o b hb).1.2;omega) dh.o);have wA:=Z ((Ab (E:=32) (Ab (E:=3) A8)).same (Ac kQ.o fun b hb=>hb.2) fS.o);have wB:=Z ((Ab A8).same (Ac kQ.o fun b hb=>by have:=(HT.o b hb).1.2;omega) kZ.o);have d0:=(ki.o.cell (p:=⟨w.heap.size,0,none⟩) j9.o.lt).trans c0;have d1:=(ki.o.cell (p:=⟨w.heap.size,1,none⟩) j9.o.lt).trans c1;have dx0:=(kQ.o.cell (p:=⟨w.heap.size,0,none⟩) (Aa j9.o.lt fI)).trans d0;have dx1:=(kQ.o.cell (p:=⟨w.heap.size,1,none⟩) (Aa j9.o.lt fI)).trans d1;clear o1' b1)
     |(go_simp;go_at_call 268;refine(IH.o _ _ _ _ (rows++[l]) S' (out++De R C f rows L k) _ (HA3.o _ ⟨B3.o.os,B3.o.tape,B3.o.output,B3.o.size,B3.o.block⟩) (ji.o _ ⟨B3.o.os,B3.o.tape,B3.o.output,B3.o.size,B3.o.block⟩) (sJ.o _ jw).1 (sJ.o _ jw).2 (tE.o _ ⟨B3.o.os,B3.o.tape,B3.o.output,B3.o.size,B3.o.block⟩) uK.o Hbr3.o vz.o ma.o).mono ?_;rintro e w4 ⟨v4,S4,rfl,o4,h4,O4⟩;obtain⟨t1,t2,t3,rfl⟩:=o4.shape;have fQ:=Z o4;have H4:=Z h4;have pV:=Z (show AO S' w3 w4 from⟨O4.os,O4.tape,O4.output,O4.size,O4.block⟩);clear o4 h4 O4))
    all_goals go_wp2
    all_goals go_roundw
    all_goals first
     |(simp[intOf];omega)
     |exact⟨k+1,J,by go_num,S4,by rw[kE.o,←List.append_assoc];exact fQ.o,fun b hb=>⟨(H4.o b hb).1.elim (fun h=>(HS'.o b h).1) (fun h=>.inr J),(H4.o b hb).2⟩,(Ho.o.qai (AO.qaj B3.o _)).qai (pV.o.mono fun b hb _=>(HS'.o b hb).1)⟩
   ·have aU:=Z (show De R C f rows L k=Dr R C (f+1) rows from P3 (by rw[HL.o,Hrs.o]) J);have dM:decide ((k:Int)<(L.length:Int))=false:=by simp;omega
    go_wp2
    go_ret
    refine⟨_,S',rfl,by rw[←aU.o];exact Hs.o,fun b hb=>⟨(HS'.o b hb).1.imp id (fun h=>by omega),(HS'.o b hb).2⟩,(AO.qaj nF.o S).qai (Ho.o.mono fun b hb _=>.inl hb)⟩
theorem Tl(a b:Value)(R C:I)(w:World)(h1:AI w a R)(h2:AI w b C):
  Calls Tryz.prog 199 #[.agg #[a,b]] w fun e w'=>∃v',e=.returned (.tuple #[v',.bool (Bv R C)])∧Ag 31 (Ag 32 (Ag 3 Ap)) (Iv w.heap.size w'.heap.size) w' v' (DA R C)∧Below w.heap.size w w':=by
 have H1:=Z h1;have H2:=Z h2;obtain⟨aa,ca,rfl,-⟩:=id h1;obtain⟨ab,cb,rfl,-⟩:=id h2;obtain⟨W1,hW1⟩:∃W1,W1=w.alloc (.cells #[.slice aa R.length ca,.slice ab C.length cb] 85):=⟨_,rfl⟩;have dV:Below w.heap.size w W1:=by rw[hW1];exact Below.qab _ _
 have iz:W1.heap.size=w.heap.size+1:=by rw[hW1];simp
 have kB:B9 W1 w.heap.size #[.slice aa R.length ca,.slice ab C.length cb] 85:=by rw[hW1];exact B9.new _ _ _
 have c0:W1.cell? ⟨w.heap.size,0,none⟩=some (.slice aa R.length ca):=kB.cell 0;have c1:W1.cell? ⟨w.heap.size,1,none⟩=some (.slice ab C.length cb):=kB.cell 1;have G1:=Z (h1.keep dV);have G2:=Z (h2.keep dV);have cN:=Z dV;have iJ:=Z kB;have e9:=Z iz;clear h1 h2 dV iz kB;cases hok:Bv R C
 ·have Hr:=Z (KR hok);have aR:=Z hok;clear hok;go_enter Tryz.func199,Tryz.ntmps199;subst hW1;go_wp2_with fail;refine(Lm _ _ _ _ _ G1.o G2.o).mono ?_;rintro e w2 ⟨rfl,hw2⟩;have b2:=cN.o.qaa (show Below _ _ w2 from by rw[hw2];exact Below.qab _ _) (A2 _);rw[aR.o];clear hw2 c0 c1;go_wp2
  go_ret2
  exact⟨_,rfl,by rw[Hr.o];exact Ag.nil _ _ _ _,b2⟩
 obtain⟨hr1,hr5,hc1,hc5⟩:=FO hok;have Hr:=Z (JW hok);have aR:=Z hok;clear hok;go_enter Tryz.func199,Tryz.ntmps199;subst hW1;go_wp2_with fail;refine(Lm _ _ _ _ _ G1.o G2.o).mono ?_;rintro e w2 ⟨rfl,hw2⟩;have b2:Below (w.alloc (.cells #[.slice aa R.length ca,.slice ab C.length cb] 85)).heap.size (w.alloc (.cells #[.slice aa R.length ca,.slice ab C.length cb] 85)) w2:=by rw[hw2];exact Below.qab _ _
 rw[aR.o];clear hw2 c0 c1;have ej:=Z (cN.o.qaa b2 (A2 _));have fX:=Z (iJ.o.keep b2);have d0:w2.cell? ⟨w.heap.size,0,none⟩=some (.slice aa R.length ca):=fX.o.cell 0;have d1:w2.cell? ⟨w.heap.size,1,none⟩=some (.slice ab C.length cb):=fX.o.cell 1;have mA:w.heap.size≤w2.heap.size:=ej.o.size;have hp6:=Wm hr5;have bG:=Z (A2j (n0:=w.heap.size) hr5 hc1 hc5 R.length (.slice aa R.length ca) (.slice ab C.length cb) (.slice none 0 0) (.slice none 0 0) [] (fun _=>False) [] w2
  ((Cd (Cd A8)).same (Ac ej.o fun _ h=>h) H1.o) ((Cd (Cd A8)).same (Ac ej.o fun _ h=>h) H2.o) mA (fun _ h=>h.elim) (Ag.nil _ _ _ _)
  ⟨none,0,rfl,Jj,Jj,fun _=>rfl,fun h=>by simp at h⟩ (fun row hr=>by cases hr) Jj (by simp;omega))
 clear b2 hp6;go_wp2_with fail;refine(bG.o).mono ?_;rintro e w3 ⟨v3,S3,rfl,o3,h3,O3⟩;obtain⟨t1,t2,t3,rfl⟩:=o3.shape;have cY:=Z o3;have lm:=Z h3;have uL:=Z O3;clear o3 h3 O3 d0 d1;go_wp2
 go_ret2
 refine⟨_,rfl,?_,ej.o.qaa (uL.o.below (A2 _) fun _ h=>h.elim) (A2 _)⟩;rw[Hr.o];have h:=cY.o;rw[List.nil_append]at h;exact(Ab (Ab (Ab A8))).mono (fun b hb=>⟨by have:=(lm.o b hb).1;simp at this;omega,(lm.o b hb).2⟩) h
theorem F3(m:I):(AD m).size≤1000:=by
 cases hok:AC m
 ·simp[AD,hok]
 ·unfold AD;rw[if_pos hok];have h5:=(Fr hok).bulk;have h6:(EQ m).size≤DC ⟨#[47]⟩ (m.map Bu):=Es _ _;omega
def Eu(S:List I):ByteArray:=match S with
 |[]=>AQ 0++⟨#[32,115,111,108,117,116,105,111,110,115]⟩
 |x::l=>AQ ((x::l).length:Nat)++⟨#[32,115,111,108,117,116,105,111,110,115]⟩++⟨#[32]⟩++AD x
def Cf(R C:I):ByteArray:=
 if Bv R C then(if D4 R C then Eu (DA R C)++⟨#[32,108,111,103,105,99,97,108]⟩else Eu (DA R C))else ByteArray.empty
structure A56(A F:ByteArray):Prop where
 a:A.size≤20
 f:F.size≤1000
 l1:(A++⟨#[32,115,111,108,117,116,105,111,110,115]⟩:ByteArray).size≤30
 l2:(⟨#[32]⟩++F:ByteArray).size≤1001
 l3:(A++⟨#[32,115,111,108,117,116,105,111,110,115]⟩++⟨#[32]⟩:ByteArray).size≤31
 l4:(A++⟨#[32,115,111,108,117,116,105,111,110,115]⟩++(⟨#[32]⟩++F):ByteArray).size≤1031
 l5:(A++⟨#[32,115,111,108,117,116,105,111,110,115]⟩++⟨#[32]⟩++F:ByteArray).size≤1031
theorem A4Z{A F:ByteArray}(a:A.size≤20)(f:F.size≤1000):A56 A F:=by
 have e1:(⟨#[32,115,111,108,117,116,105,111,110,115]⟩:ByteArray).size=10:=rfl;have e2:(⟨#[32]⟩:ByteArray).size=1:=rfl;refine⟨a,f,?_,?_,?_,?_,?_⟩<;>simp only[AR,e1,e2]<;>omega
theorem XU(a b c:ByteArray):a++b++c=a++(b++c):=by
 apply DX;simp only[Cm,List.append_assoc]
theorem Pi(F0:Nat)(eS:F0=55∨F0=137)(a b:Value)(R C:I)(w:World)(h1:AI w a R)(h2:AI w b C)(fJ:∀r∈R,r.length≤1048576)(jT:∀r∈C,r.length≤1048576)(ht:Tab w):
  Calls Tryz.prog F0 #[.agg #[a,b]] w fun e w'=>e=.returned (.string (Cf R C))∧Below w.heap.size w w':=by
 rcases eS with rfl|rfl
 all_goals
  have e8:=Z fJ;have nE:=Z jT;have H1:=Z h1;have H2:=Z h2;have HT:=Z ht;obtain⟨aa,ca,rfl,-⟩:=h1;obtain⟨ab,cb,rfl,-⟩:=h2;clear fJ jT ht;have Hk:=Z (B9.new w #[.slice aa R.length ca,.slice ab C.length cb] 85);have fV:=Z (Below.qab w (.cells #[.slice aa R.length ca,.slice ab C.length cb] 85))
  first|go_enter Tryz.func55,Tryz.ntmps55|go_enter Tryz.func137,Tryz.ntmps137
  go_wp2_with fail
  first|(go_at_call 117;refine(TM _ _ R C _ (H1.o.keep fV.o) (H2.o.keep fV.o) e8.o nE.o).mono ?_)|(refine(Tl _ _ R C _ (H1.o.keep fV.o) (H2.o.keep fV.o)).mono ?_)
  rintro e w1 ⟨v1,rfl,o1,b1⟩;have dm:=Z (fV.o.qaa b1 (A2 _));have jC:=Z (Hk.o.keep b1);cases hok:Bv R C
  ·have Hr:=Z (show ByteArray.empty=Cf R C from by unfold Cf;rw[if_neg (by rw[hok];simp)]);obtain⟨p1,p2,p3,rfl⟩:=o1.shape;clear o1 hok;go_wp2
   go_ret
   exact⟨I4 Hr.o,dm.o⟩
  have nG:∀z,D4 R C=z→Cf R C=(if z then Eu (DA R C)++⟨#[32,108,111,103,105,99,97,108]⟩else Eu (DA R C)):=fun z hz=>by unfold Cf;rw[if_pos hok,hz]
  obtain⟨z,hz⟩:∃z,D4 R C=z:=⟨_,rfl⟩;have Hr:=Z (nG z hz);have Hz:=Z hz;have k0:w1.cell? ⟨w.heap.size,0,none⟩=some (.slice aa R.length ca):=jC.o.cell 0;have k1:w1.cell? ⟨w.heap.size,1,none⟩=some (.slice ab C.length cb):=jC.o.cell 1;obtain⟨S,hS⟩:∃S,S=DA R C:=⟨_,rfl⟩;rw[←hS]at o1 Hr;clear nG hz hok hS;cases S with
  |nil=>
   obtain⟨q1,q2,q3,rfl⟩:=o1.shape;have hq:=o1.qan.len;rw[List.length_nil]at hq;subst hq;obtain⟨za,zf,z1,z2,z3,z4,z5⟩:=A4Z (A:=AQ 0) (F:=ByteArray.empty) (CW J) Jq;have Hh:=Z (show Eu []=AQ 0++⟨#[32,115,111,108,117,116,105,111,110,115]⟩from rfl);clear o1 k0 k1;go_wp2_with fail
   first|(go_at_call 8;refine(DQ _ (Cc.small J J) _ (HT.o.keep dm.o)).mono ?_)|(refine(Dx _ (Cc.small J J) _).mono ?_)
   rintro e w2 ⟨rfl,b2⟩;have be:=Z (dm.o.qaa b2 (A2 _));have dW:=Z (jC.o.keep b2);have k0:w2.cell? ⟨w.heap.size,0,none⟩=some (.slice aa R.length ca):=dW.o.cell 0;have k1:w2.cell? ⟨w.heap.size,1,none⟩=some (.slice ab C.length cb):=dW.o.cell 1;go_wp2_with fail
   first|(go_at_call 118;refine(QG _ _ R C _ (H1.o.keep be.o) (H2.o.keep be.o) e8.o nE.o).mono ?_)|(refine(Qb _ _ R C _ (H1.o.keep be.o) (H2.o.keep be.o)).mono ?_)
   rintro e w3 ⟨rfl,b3⟩;rw[Hz.o];have bN:=Z (be.o.qaa b3 (A2 _));clear k0 k1;cases z
   ·go_wp2
    go_ret
    exact⟨I4 (by rw[Hr.o,Hh.o];rfl),bN.o⟩
   ·go_wp2
    go_ret
    exact⟨I4 (by rw[Hr.o,Hh.o];rfl),bN.o⟩
  |cons x l=>
   obtain⟨g,gc,rfl,-,-,iG,dG⟩:=o1.qac Jj;have Hg:=Z o1.qan;obtain⟨u,aW,hu⟩:=Sl.at o1.qan (k:=0) (x:=x) rfl;have Hu:=Z (show AI w1 u x from hu);obtain⟨ua,uc,rfl,-⟩:=hu;rw[AF]at aW;have Hck:=Z aW;obtain⟨n,hn⟩:∃n,n=(x::l).length:=⟨_,rfl⟩;have Hn:=Z hn;have dS:0<n:=by rw[hn];simp
   rw[←hn]at dG⊢;obtain⟨A,hA⟩:∃A,A=AQ (n:Int):=⟨_,rfl⟩;obtain⟨F,hF⟩:∃F,F=AD x:=⟨_,rfl⟩;obtain⟨za,zf,z1,z2,z3,z4,z5⟩:=A4Z (A:=A) (F:=F) (by rw[hA];exact CW J) (by rw[hF];exact F3 x);have HA:=Z hA;have HF:=Z hF;have Hh:=Z (show Eu (x::l)=A++⟨#[32,115,111,108,117,116,105,111,110,115]⟩++⟨#[32]⟩++F from by rw[hA,hF,hn];rfl);have Key:=Z (show A++⟨#[32,115,111,108,117,116,105,111,110,115]⟩++(⟨#[32]⟩++F)=Eu (x::l)from by rw[Hh.o,XU (A++_)]);clear o1 hn hA hF k0 k1 aW;go_wp2_with fail
   first|(go_at_call 8;refine(DQ _ (Cc.small J J) _ (HT.o.keep dm.o)).mono ?_)|(refine(Dx _ (Cc.small J J) _).mono ?_)
   rintro e w2 ⟨rfl,b2⟩;rw[←HA.o];have be:=Z (dm.o.qaa b2 (A2 _));have dW:=Z (jC.o.keep b2);have aW:=(b2.cell (p:=⟨g,0,none⟩) iG).trans Hck.o;go_wp2_with fail
   first|(go_at_call 30;refine(Fw _ x _ (Hu.o.keep b2)).mono ?_)|(refine(EK _ x _ (Hu.o.keep b2)).mono ?_)
   rintro e w3 ⟨rfl,b3⟩;rw[←HF.o];have bN:=Z (be.o.qaa b3 (A2 _));have iD:=Z (dW.o.keep b3);have k0:w3.cell? ⟨w.heap.size,0,none⟩=some (.slice aa R.length ca):=iD.o.cell 0;have k1:w3.cell? ⟨w.heap.size,1,none⟩=some (.slice ab C.length cb):=iD.o.cell 1;clear aW;go_wp2_with fail
   first|(go_at_call 118;refine(QG _ _ R C _ (H1.o.keep bN.o) (H2.o.keep bN.o) e8.o nE.o).mono ?_)|(refine(Qb _ _ R C _ (H1.o.keep bN.o) (H2.o.keep bN.o)).mono ?_)
   rintro e w4 ⟨rfl,b4⟩;rw[Hz.o];have eN:=Z (bN.o.qaa b4 (A2 _));clear k0 k1;cases z
   ·go_wp2
    go_ret
    first|exact⟨I4 (by rw[Hr.o];rw[Key.o];rfl),eN.o⟩|exact⟨I4 (by rw[Hr.o];rw[Hh.o];rfl),eN.o⟩
   ·go_wp2
    go_ret
    first|exact⟨I4 (by rw[Hr.o];rw[Key.o];rfl),eN.o⟩|exact⟨I4 (by rw[Hr.o];rw[Hh.o];rfl),eN.o⟩

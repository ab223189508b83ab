/- Base. -/
import Derived.Test.YthmocomfjgmjoaaGreatDoorQ13
set_option maxHeartbeats 4000000
set_option maxRecDepth 100000
namespace Go.Proofs.YthmocomfjgmjoaaGreatDoor
def Dk(R C:List (List Int)):Nat→List (List Int)→List (List (List Int))
 |0,rows=>if CT rows=C then[rows] else[]
 |f+1,rows=>(Bj (R.getD rows.length []) C.length).flatMap fun l=>Dk R C f (rows++[l])
def D4(R C:List (List Int))(f:Nat)(rows:List (List Int))(L:List (List Int))(k:Nat):List (List (List Int)):=(L.take k).flatMap fun l=>Dk R C f (rows++[l])
theorem MX(R C:List (List Int))(f:Nat)(rows L:List (List Int)):D4 R C f rows L 0=[]:=by simp[D4]
theorem N3{R C:List (List Int)}{f:Nat}{rows L:List (List Int)}{k:Nat}{l:List Int}(h:L[k]? =some l):D4 R C f rows L (k+1)=D4 R C f rows L k++Dk R C f (rows++[l]):=by
 unfold D4;rw[List.take_add_one,h,List.flatMap_append];simp
theorem OB{R C:List (List Int)}{f:Nat}{rows L:List (List Int)}{k:Nat}(hL:L=Bj (R.getD rows.length []) C.length)(hk:L.length≤k):D4 R C f rows L k=Dk R C (f+1) rows:=by
 unfold D4;rw[List.take_of_length_le hk,Dk,hL]
theorem ZX:∀n,n<6→∀key,key<2^n→(Bj (BQ (AO n key)) n).length≤6:=by decide+kernel
theorem PE{n:Nat}(h:n≤5)(rs:List Int):(Bj rs n).length≤6:=by
 cases hl:Bj rs n with
 |nil=>simp
 |cons a l=>
  have hm:a∈Bj rs n:=by rw[hl];simp
  have eE:=hm;unfold Bj Ek at eE;obtain⟨h1,h2⟩:=List.mem_filter.1 eE;obtain⟨key,hk,rfl⟩:=List.mem_map.1 h1;have h3:BQ (AO n key)=rs:=by simpa using h2
  have:=ZX n (by omega) key (List.mem_range.1 hk);rw[h3,hl] at this;exact this
theorem SG{α β:Type}(g:α→List β)(N:Nat):∀(L:List α),(∀x∈L,(g x).length≤N)→(L.flatMap g).length≤L.length*N
 |[],_=>by simp
 |x::L,h=>by
  rw[List.flatMap_cons,List.length_append,List.length_cons,Nat.succ_mul];have h1:=h x (by simp);have h2:=SG g N L (fun y hy=>h y (List.mem_cons_of_mem _ hy));omega
theorem RX{R C:List (List Int)}(hc:C.length≤5):∀(f:Nat)(rows:List (List Int)),(Dk R C f rows).length≤6^f:=by
 intro f;induction f with
 |zero=>intro rows;unfold Dk;split<;>simp
 |succ f ih=>
  intro rows;unfold Dk;have h1:=SG (fun l=>Dk R C f (rows++[l])) (6^f) (Bj (R.getD rows.length []) C.length) (fun l _=>ih _);have h2:=Nat.mul_le_mul_right (6^f) (PE hc (R.getD rows.length []));rw[Nat.pow_succ];omega
theorem OZ{R C:List (List Int)}(hc:C.length≤5)(f:Nat)(rows L:List (List Int))(k:Nat):(D4 R C f rows L k).length≤k*6^f:=by
 unfold D4;have h1:=SG (fun l=>Dk R C f (rows++[l])) (6^f) (L.take k) (fun l _=>RX hc _ _);have h2:(L.take k).length≤k:=by rw[List.length_take];omega
 exact Nat.le_trans h1 (Nat.mul_le_mul_right _ h2)
def XU(c:Nat)(rows:List (List Int)):Prop:=∀row∈rows,row.length=c∧∀x∈row,0≤x∧x≤1
theorem XU.snoc{c:Nat}{rows:List (List Int)}{rs l:List Int}(h:XU c rows)(hl:l∈Bj rs c):XU c (rows++[l]):=by
 intro row aG;rcases List.mem_append.1 aG with h1|h1
 ·exact h row h1
 ·rw[List.mem_singleton] at h1;subst h1;exact Je hl
def CH(R C:List (List Int)):List (List (List Int)):=if Ba R C then Dk R C R.length [] else[]
theorem Kn{R C:List (List Int)}(h:Ba R C=false):CH R C=[]:=by unfold CH;rw[h];rfl
theorem JE{R C:List (List Int)}(h:Ba R C=true):CH R C=Dk R C R.length []:=by unfold CH;rw[h];rfl
end Go.Proofs.YthmocomfjgmjoaaGreatDoor
namespace Go.Proofs.YthmocomfjgmjoaaGreatDoor
open Go.RowKit
def A4T:CG Value:=fun _ _ u x=>u=x∧u.oneCell'=true
theorem Zf:M3 A4T:=⟨fun _ h=>h,fun _ h=>h,fun h=>h,fun h=>h.2⟩
theorem V0{α:Type}{P:Program}{w0:World}{ei:Array Oper}{o:Oper}{a:Act}{K:Act→World→Prop}{Q:Exit→Act→World→Prop}{Ep:Prop}(ie:o.guard=none)(s xo:Operand)(t:TypeId)
  (ho:o.op=.call {callee:=.builtin .append,args:=#[s,xo],argTypes:=#[t,t]}){R:CG α}(hR:M3 R)
  (E:TypeId){z:Value}{bytes:Nat}(ht:P.underlying t=some (.slice E))(cW:(P.info? E).map (fun i=>(i.zero,i.size,i.bytes))=some (some z,1,bytes))(eZ:z.cells.size=1)(dP:bytes≤64)
  (S T S':Bk){v u:Value}{xs:List α}{x:α}(hs:a.eval s=v)(hx:a.eval xo=.slice (some ⟨w0.heap.size,0,none⟩) 1 1)(aB:A4 E R S w0 v xs)(hu:R T w0 u x)(jD:∀b,S b→¬T b)(hS:∀b,S b→b<w0.heap.size)(hT:∀b,T b→b<w0.heap.size)
  (rq:∀b,S b→S' b)(dq:∀b,T b→S' b)(mH:∀b,w0.heap.size<b→S' b)(aP:xs.length<1099511627776)
  (h:∀v' w',A4 E R (fun b=>S' b∧b<w'.heap.size) w' v' (xs++[x])→Ar (fun b=>v.ownBlock=some b) w0 w'→K (a.put o.dst v') w'):
  if Region.wanted o (yielded ei a.tmps)=true then Oper.wp P o a (w0.alloc (.cells #[u] E)) K Q else Ep:=by
 have hw:Region.wanted o (yielded ei a.tmps)=true:=by simp[Region.wanted,ie]
 rw[if_pos hw];obtain⟨i,hi,hz,af,eM⟩:=info_parts cW;obtain⟨v',w',hr,h2,h3⟩:=LV (P:=P) hR w0 t o.type E i z bytes ht hi hz af eM eZ dP S T S' v u xs x aB hu jD hS hT rq dq mH aP;unfold Oper.wp execOp;simp only[ho,resolve,invoke,builtin,Sem.run_bind,Sem.run_pure,Result.andThen_ok,List.map_toArray,List.map_cons,List.map_nil,hs,hx,hr];exact h v' w' h2 h3
theorem A4.init{α:Type}{E:TypeId}{R:CG α}{S:Bk}{w:World}{g n cap:Nat}{xs:List α}{x:α}(h:A4 E R S w (.slice (some ⟨g,0,none⟩) n cap) (xs++[x])):n=xs.length+1∧n≤cap∧A4 E R S w (.slice (some ⟨g,0,none⟩) xs.length cap) xs:=by
 rcases h with⟨h,-⟩|⟨g',arr,he,hg,hh,h1,h2,h3,T,dq,hT2,hT3⟩
 ·cases h
 ·simp only[Value.slice.injEq,Option.some.injEq,Addr.mk.injEq,and_true] at he;obtain⟨rfl,rfl,rfl⟩:=he;rw[List.length_append,List.length_singleton] at h1 h3;refine⟨by simp,by rw[List.length_append,List.length_singleton];omega,.inr ⟨g,arr,rfl,hg,hh,by omega,h2,by omega,T,dq,hT2,fun k y hk=>?_⟩⟩;have ah:=(List.getElem?_eq_some_iff.1 hk).1;exact hT3 k y (by rw[List.getElem?_append_left ah];exact hk)
def IJ(S:Bk)(w:World)(vals:List Value)(rows:List (List Int)):Prop:=
 vals.length=rows.length∧∀(k:Nat) v x,vals[k]? =some v→rows[k]? =some x→Sl A7 (fun b=>b<w.heap.size∧¬S b) w v x
theorem IJ.go{S S':Bk}{w w':World}{vals:List Value}{rows:List (List Int)}(h:IJ S w vals rows)(ho:Ar S w w')(hS:∀b,S' b→S b∨w.heap.size≤b):IJ S' w' vals rows:=by
 refine⟨h.1,fun k v x hv hx=>?_⟩;refine(BY A2).mono (fun b hb=>⟨Nat.lt_of_lt_of_le hb.1 ho.size,fun h'=>?_⟩) ((BY A2).same (fun b hb=>ho.block b hb.1 hb.2) (h.2 k v x hv hx));rcases hS b h' with h1|h1
 ·exact hb.2 h1
 ·have:=hb.1;omega
theorem IJ.snoc{S:Bk}{w:World}{vals:List Value}{rows:List (List Int)}{v:Value}{x:List Int}(h:IJ S w vals rows)(hv:Sl A7 (fun b=>b<w.heap.size∧¬S b) w v x):IJ S w (vals++[v]) (rows++[x]):=by
 have hl:=h.1;refine⟨by simp[h.1],fun k v' x' h1 h2=>?_⟩;by_cases hk:k<vals.length
 ·rw[List.getElem?_append_left hk] at h1;rw[List.getElem?_append_left (by omega)] at h2;exact h.2 k v' x' h1 h2
 ·have mU:k=vals.length:=by have:=(List.getElem?_eq_some_iff.1 h1).1;simp at this;omega
  subst mU;rw[List.getElem?_append_right (Nat.le_refl _),Nat.sub_self] at h1;rw[List.getElem?_append_right (by omega),hl,Nat.sub_self] at h2;simp at h1 h2;subst h1;subst h2;exact hv
theorem A2c{E:TypeId}{S Sm:Bk}{w:World}{vm:Value}{vals:List Value}{rows:List (List Int)}(hr:IJ S w vals rows)(hm:A4 E A4T Sm w vm vals):Ak w vm rows:=by
 have hl:=hr.1;rcases hm with⟨rfl,rfl⟩|⟨g,arr,rfl,hg,hh,h1,h2,h3,T,-,-,hT3⟩
 ·have:rows=[]:=List.eq_nil_of_length_eq_zero (by rw[←hl];rfl);subst this;exact⟨none,0,rfl,by simp,by simp,fun _=>rfl,fun h=>by simp at h⟩
 ·rw[hl] at h1 h3⊢;refine⟨_,_,rfl,h1,Nat.le_trans h3 (by decide),fun h=>by simp at h,fun _=>⟨g,0,rfl,lt_of_block hh,fun k x hk=>?_⟩⟩;have ah:=(List.getElem?_eq_some_iff.1 hk).1;obtain⟨v,hv⟩:∃v,vals[k]? =some v:=⟨_,List.getElem?_eq_getElem (by omega)⟩;obtain⟨u,hu,rfl,-⟩:=hT3 k v hv;refine⟨u,by rw[cell_of_row w g _ arr E (0,0) hh,Nat.zero_add];exact hu,(BY A2).mono (fun b hb=>hb.1) (hr.2 k u x hv hk)⟩
def Wr(Sm So:Bk)(Bm Bo:Nat):Bk:=fun b=>Sm b∨So b∨b=Bm∨b=Bo
theorem Mr{Sm So Sm' So':Bk}{Bm Bo n:Nat}(h1:∀b,Sm' b→Sm b∨n≤b)(h2:∀b,So' b→So b∨n≤b):∀b,Wr Sm' So' Bm Bo b→Wr Sm So Bm Bo b∨n≤b:=by
 rintro b (h|h|h|h)
 ·exact(h1 b h).imp (fun h=>.inl h) id
 ·exact(h2 b h).imp (fun h=>.inr (.inl h)) id
 ·exact .inl (.inr (.inr (.inl h)))
 ·exact .inl (.inr (.inr (.inr h)))
theorem SR:(Tryz.prog.info? 31).map (fun i=>(i.zero,i.size,i.bytes))=some (some (.slice none 0 0),1,24):=by kernel_rfl
structure Zj(n Bp Bm Bo Bf K:Nat)(a b F:Value)(W0 w:World)(vm:Value)(vals:List Value)(Sm:Bk)(vo:Value)(out:List (List (List Int)))(So:Bk):Prop where
 base:Below n W0 w
 bp:Aw w Bp #[a,b] 85
 bm:Aw w Bm #[vm] 31
 bo:Aw w Bo #[vo] 77
 bf:Aw w Bf #[F] 138
 om:A4 32 A4T Sm w vm vals
 oo:A4 31 (A4 32 (A4 3 A7)) So w vo out
 hm:∀b,Sm b→(K≤b∧b<w.heap.size)∧¬So b
 ho:∀b,So b→K≤b∧b<w.heap.size
 hK:K≤w.heap.size
structure SWf(n Bp Bm Bo Bf K:Nat):Prop where
 h1:n≤Bp
 h2:Bp<Bo
 h3:Bo<Bm
 h4:Bm<Bf
 h5:Bf<K
theorem Zj.push{n Bp Bm Bo Bf K:Nat}{a b F:Value}{W0 w w2:World}{vm vm2 u:Value}{vals:List Value}{Sm So:Bk}{vo:Value}{out:List (List (List Int))}(wf:SWf n Bp Bm Bo Bf K)(h:Zj n Bp Bm Bo Bf K a b F W0 w vm vals Sm vo out So)
  (h2:A4 32 A4T (fun b=>(Sm b∨w.heap.size≤b)∧b<w2.heap.size) w2 vm2 (vals++[u]))(h3:Ar (fun b=>vm.ownBlock=some b) w w2):
  Zj n Bp Bm Bo Bf K a b F W0 (w2.setCell ⟨Bm,0,none⟩ vm2) vm2 (vals++[u]) (fun b=>(Sm b∨w.heap.size≤b)∧b<w2.heap.size) vo out So∧Ar (Wr Sm So Bm Bo) w (w2.setCell ⟨Bm,0,none⟩ vm2):=by
 obtain⟨a1,a2,a3,a4,a5⟩:=wf;have hs:=h3.size;have hK:=h.hK;have aO:∀g,g<K→¬(vm.ownBlock=some g):=fun g hg he=>by have:=(h.hm g (h.om.ownBlock' g he)).1.1;omega
 have kb:∀{g:Nat}{cs:Array Value}{t:TypeId},Aw w g cs t→g<K→g≠Bm→Aw (w2.setCell ⟨Bm,0,none⟩ vm2) g cs t:=fun {g cs t} hg hl hn=>Aw.set_ne (hg.only h3 (aO g hl)) hn vm2;have aA:Below n w w2:=h3.below (by omega) (fun b hb=>by have:=(h.hm b (h.om.ownBlock' b hb)).1.1;omega);have aM:∀b,b≠Bm→(w2.setCell ⟨Bm,0,none⟩ vm2).heap[b]? =w2.heap[b]? :=fun b hb=>Below.heap_setCell w2 _ _ b (by show b≠Bm;exact hb);refine⟨⟨(h.base.trans aA).setCell (by show n≤Bm;omega) _,kb h.bp (by omega) (by omega),?_,kb h.bo (by omega) (by omega),kb h.bf (by omega) (by omega),?_,?_,fun b hb=>⟨⟨?_,by rw[A9];exact hb.2⟩,fun ho=>?_⟩,fun b hb=>⟨(h.ho b hb).1,by rw[A9];exact Nat.lt_of_lt_of_le (h.ho b hb).2 hs⟩,by rw[A9];omega⟩,?_⟩
 ·have h1:=(h.bm.only h3 (aO Bm (by omega))).set (j:=0) vm2;simpa using h1
 ·exact(A3 Zf).same (fun b hb=>aM b (by have h6:K≤b:=(hb.1.elim (fun x=>(h.hm b x).1.1) (fun x=>by omega));omega)) h2
 ·refine(A3 (A3 (A3 A2))).same (fun b hb=>(aM b (by have:=(h.ho b hb).1;omega)).trans (h3.block b (h.ho b hb).2 fun he=>(h.hm b (h.om.ownBlock' b he)).2 hb)) h.oo
 ·exact hb.1.elim (fun x=>(h.hm b x).1.1) (fun x=>by omega)
 ·rcases hb.1 with x|x
  ·exact(h.hm b x).2 ho
  ·have:=(h.ho b ho).2;omega
 ·exact(h3.mono fun b hb _=>.inl (h.om.ownBlock' b hb)).setCell (.inl (.inr (.inr (.inl rfl)))) _
theorem Zj.pop{n Bp Bm Bo Bf K:Nat}{a b F:Value}{W0 w:World}{vm u:Value}{vals:List Value}{Sm So:Bk}{vo:Value}{out:List (List (List Int))}(wf:SWf n Bp Bm Bo Bf K)(h:Zj n Bp Bm Bo Bf K a b F W0 w vm (vals++[u]) Sm vo out So):
  ∃g cap,vm=.slice (some ⟨g,0,none⟩) (vals.length+1) cap∧vals.length+1≤cap∧
   Zj n Bp Bm Bo Bf K a b F W0 (w.setCell ⟨Bm,0,none⟩ (.slice (some ⟨g,0,none⟩) vals.length cap)) (.slice (some ⟨g,0,none⟩) vals.length cap) vals Sm vo out So∧Ar (Wr Sm So Bm Bo) w (w.setCell ⟨Bm,0,none⟩ (.slice (some ⟨g,0,none⟩) vals.length cap)):=by
 obtain⟨a1,a2,a3,a4,a5⟩:=wf;have hK:=h.hK;have hom:=h.om;obtain⟨g,cap,rfl,-⟩:=hom.inv_ne (by simp);obtain⟨e1,e2,o2⟩:=hom.init;have hl:(vals++[u]).length=vals.length+1:=by simp
 rw[hl] at e2;have kb:∀{g':Nat}{cs:Array Value}{t:TypeId},Aw w g' cs t→g'≠Bm→Aw (w.setCell ⟨Bm,0,none⟩ (.slice (some ⟨g,0,none⟩) vals.length cap)) g' cs t:=fun {g' cs t} hg hn=>Aw.set_ne hg hn _;have aM:∀b,b≠Bm→(w.setCell ⟨Bm,0,none⟩ (.slice (some ⟨g,0,none⟩) vals.length cap)).heap[b]? =w.heap[b]? :=fun b hb=>Below.heap_setCell w _ _ b (by show b≠Bm;exact hb);refine⟨g,cap,by rw[hl],e2,⟨h.base.setCell (by show n≤Bm;omega) _,kb h.bp (by omega),?_,kb h.bo (by omega),kb h.bf (by omega),?_,?_,fun b hb=>⟨⟨(h.hm b hb).1.1,by rw[A9];exact(h.hm b hb).1.2⟩,(h.hm b hb).2⟩,fun b hb=>⟨(h.ho b hb).1,by rw[A9];exact(h.ho b hb).2⟩,by rw[A9];exact hK⟩,(Ar.refl _ w).setCell (.inl (.inr (.inr (.inl rfl)))) _⟩
 ·have h1:=h.bm.set (j:=0) (.slice (some ⟨g,0,none⟩) vals.length cap);simpa using h1
 ·exact(A3 Zf).same (fun b hb=>aM b (by have:=(h.hm b hb).1.1;omega)) o2
 ·exact(A3 (A3 (A3 A2))).same (fun b hb=>aM b (by have:=(h.ho b hb).1;omega)) h.oo
theorem Zj.more{n Bp Bm Bo Bf K:Nat}{a b F:Value}{W0 w w1 w2:World}{vm vo2:Value}{vals:List Value}{Sm So:Bk}{vo:Value}{out out2:List (List (List Int))}(wf:SWf n Bp Bm Bo Bf K)(h:Zj n Bp Bm Bo Bf K a b F W0 w vm vals Sm vo out So)(dU:Below w.heap.size w w1)
  (h2:A4 31 (A4 32 (A4 3 A7)) (fun b=>(So b∨w.heap.size≤b)∧b<w2.heap.size) w2 vo2 out2)(h3:Ar (fun b=>vo.ownBlock=some b) w1 w2):
  Zj n Bp Bm Bo Bf K a b F W0 (w2.setCell ⟨Bo,0,none⟩ vo2) vm vals Sm vo2 out2 (fun b=>(So b∨w.heap.size≤b)∧b<w2.heap.size)∧Ar (Wr Sm So Bm Bo) w (w2.setCell ⟨Bo,0,none⟩ vo2):=by
 obtain⟨a1,a2,a3,a4,a5⟩:=wf;have hs:=h3.size;have cX:=dU.size;have hK:=h.hK;have aO:∀g,g<K→¬(vo.ownBlock=some g):=fun g hg he=>by have:=(h.ho g (h.oo.ownBlock' g he)).1;omega
 have kb:∀{g:Nat}{cs:Array Value}{t:TypeId},Aw w g cs t→g<K→g≠Bo→Aw (w2.setCell ⟨Bo,0,none⟩ vo2) g cs t:=fun {g cs t} hg hl hn=>Aw.set_ne ((hg.keep dU).only h3 (aO g hl)) hn vo2;have aA:Below n w w2:=(dU.mono (by omega)).trans (h3.below (by omega) (fun b hb=>by have:=(h.ho b (h.oo.ownBlock' b hb)).1;omega));have aM:∀b,b≠Bo→(w2.setCell ⟨Bo,0,none⟩ vo2).heap[b]? =w2.heap[b]? :=fun b hb=>Below.heap_setCell w2 _ _ b (by show b≠Bo;exact hb);refine⟨⟨(h.base.trans aA).setCell (by show n≤Bo;omega) _,kb h.bp (by omega) (by omega),kb h.bm (by omega) (by omega),?_,kb h.bf (by omega) (by omega),?_,?_,fun b hb=>⟨⟨(h.hm b hb).1.1,by rw[A9];have:=(h.hm b hb).1.2;omega⟩,fun ho=>?_⟩,fun b hb=>⟨?_,by rw[A9];exact hb.2⟩,by rw[A9];omega⟩,?_⟩
 ·have h1:=((h.bo.keep dU).only h3 (aO Bo (by omega))).set (j:=0) vo2;simpa using h1
 ·refine(A3 Zf).same (fun b hb=>(aM b (by have:=(h.hm b hb).1.1;omega)).trans ((h3.block b (by have:=(h.hm b hb).1.2;omega) fun he=>(h.hm b hb).2 (h.oo.ownBlock' b he)).trans (dU.block b (h.hm b hb).1.2))) h.om
 ·exact(A3 (A3 (A3 A2))).same (fun b hb=>aM b (by have h6:K≤b:=(hb.1.elim (fun x=>(h.ho b x).1) (fun x=>by omega));omega)) h2
 ·rcases ho.1 with x|x
  ·exact(h.hm b hb).2 x
  ·have:=(h.hm b hb).1.2;omega
 ·exact hb.1.elim (fun x=>(h.ho b x).1) (fun x=>by omega)
 ·exact((Ar.of_pure dU _).trans' (h3.mono fun b hb _=>.inl (.inr (.inl (h.oo.ownBlock' b hb))))).setCell (.inl (.inr (.inr (.inr rfl)))) _
theorem Zj.keep{n Bp Bm Bo Bf K:Nat}{a b F:Value}{W0 w w':World}{vm:Value}{vals:List Value}{Sm So:Bk}{vo:Value}{out:List (List (List Int))}(wf:SWf n Bp Bm Bo Bf K)(h:Zj n Bp Bm Bo Bf K a b F W0 w vm vals Sm vo out So)(hb:Below w.heap.size w w'):Zj n Bp Bm Bo Bf K a b F W0 w' vm vals Sm vo out So:=by
 obtain⟨a1,a2,a3,a4,a5⟩:=wf;have hs:=hb.size;have hK:=h.hK;exact⟨h.base.trans (hb.mono (by omega)),h.bp.keep hb,h.bm.keep hb,h.bo.keep hb,h.bf.keep hb,(A3 Zf).same (A5 hb fun b hb=>(h.hm b hb).1.2) h.om,(A3 (A3 (A3 A2))).same (A5 hb fun b hb=>(h.ho b hb).2) h.oo,
  fun b hb=>⟨⟨(h.hm b hb).1.1,Nat.lt_of_lt_of_le (h.hm b hb).1.2 hs⟩,(h.hm b hb).2⟩,fun b hb=>⟨(h.ho b hb).1,Nat.lt_of_lt_of_le (h.ho b hb).2 hs⟩,Nat.le_trans hK hs⟩
def A67(n Bp Bm Bo Bf K:Nat)(a b F:Value)(W0 w:World)(vals:List Value)(Sm So:Bk)(out:List (List (List Int)))(w':World):Prop:=
 ∃vm' Sm' vo' So',Zj n Bp Bm Bo Bf K a b F W0 w' vm' vals Sm' vo' out So'∧(∀b,Sm' b→Sm b∨w.heap.size≤b)∧(∀b,So' b→So b∨w.heap.size≤b)∧Ar (Wr Sm So Bm Bo) w w'
theorem A5s{n Bp Bm Bo Bf K:Nat}{a b F:Value}{W0:World}{R C:List (List Int)}(wf:SWf n Bp Bm Bo Bf K)(hF:F=.func (.func 177) #[] #[.pointer (some ⟨Bp,0,none⟩),.pointer (some ⟨Bm,0,none⟩),.pointer (some ⟨Bo,0,none⟩),.pointer (some ⟨Bf,0,none⟩)])
  (hn:W0.heap.size≤n)(_:n≤W0.heap.size)(ha:Ak W0 a R)(hb:Ak W0 b C)(hR1:1≤R.length)(hJ:R.length≤5)(hC1:1≤C.length)(rr:C.length≤5)(f:Nat):
  ∀(vals:List Value)(rows:List (List Int))(vm:Value)(Sm:Bk)(vo:Value)(So:Bk)(out:List (List (List Int)))(w:World),Zj n Bp Bm Bo Bf K a b F W0 w vm vals Sm vo out So→IJ (Wr Sm So Bm Bo) w vals rows→XU C.length rows→rows.length+f=R.length→out.length+6^f≤1099511627775→
   Calls Tryz.prog 177 #[.int .i64 rows.length,.pointer (some ⟨Bp,0,none⟩),.pointer (some ⟨Bm,0,none⟩),.pointer (some ⟨Bo,0,none⟩),.pointer (some ⟨Bf,0,none⟩)] w fun e w'=>e=.returned (.tuple #[])∧A67 n Bp Bm Bo Bf K a b F W0 w vals Sm So (out++Dk R C f rows) w':=by
 subst hF;have Wf:=Z wf;have Ha:=Z ha;have Hb:=Z hb;obtain⟨aa,ca,rfl,-,hleR,-⟩:=ha;obtain⟨ab,cb,rfl,-,hleC,-⟩:=hb;have eO:Bo<K:=by have:=wf.h3;have:=wf.h4;have:=wf.h5;omega
 induction f with
 |zero=>
  intro vals rows vm Sm vo So out w bE hrok dL aP bq;have aJ:=Z bE;have ru:=Z hrok;have hlr:rows.length≤R.length:=by omega
  have hlr2:R.length≤rows.length:=by omega
  have fx:((rows.length:Int)==(R.length:Int))=true:=by rw[beq_iff_eq];omega
  have c0:w.cell? ⟨Bp,0,none⟩=some (.slice aa R.length ca):=bE.bp.cell 0;have c2:w.cell? ⟨Bm,0,none⟩=some vm:=bE.bm.cell 0;have HG:=Z (A2c hrok bE.om);have nk:=Z dL;have df:=Z bq;have hK:=bE.hK;clear bE hrok dL aP bq;go_enter Tryz.func177,Tryz.ntmps177;go_wp2_with (fail);refine(SS _ rows _ HG.o).mono ?_;rintro e w1 ⟨a1,b1,rfl,o1,dU⟩;obtain⟨⟨p1,p2,p3,rfl⟩,⟨q1,q2,q3,rfl⟩⟩:=o1.shape;have dp:=Z dU;have dF:=Z (aJ.o.keep Wf.o dU);have e1:(w1.alloc (.cells #[.slice p1 p2 p3,.slice q1 q2 q3] 85)).cell? ⟨Bp,1,none⟩=some (.slice ab C.length cb):=(dF.o.bp.keep (Below.pureAlloc _ _)).cell 1;have HGx:=Z o1.reads.2;clear o1 dU c0 c2;go_wp2_with (fail);refine(ML _ _ (CT rows) C _ (HGx.o.keep (Below.pureAlloc _ _)) ((Hb.o.keep (dF.o.base.mono hn)).keep (Below.pureAlloc _ _))).mono ?_;rintro e w2 ⟨rfl,b2⟩;have au:Below w.heap.size w w2:=(dp.o.trans_pure (Below.pureAlloc _ _) (Nat.le_refl _)).trans_pure b2 (Nat.le_refl _);have bj:=Z au;have b9:=Z (aJ.o.keep Wf.o au);clear b2 au e1;by_cases hq:CT rows=C
  ·have eR:=Z (show Dk R C 0 rows=[rows] from by unfold Dk;rw[if_pos hq]);rw[decide_eq_true hq];have ft:out.length<1099511627776:=Nat.lt_of_le_of_lt (Nat.le_trans (Nat.le_add_right _ _) df.o) (by decide);have bJ:rows.length≤1048576:=by omega
   have HR:=Z (show ∀p∈rows,p.length≤1048576 from fun p hp=>by have:=(nk.o p hp).1;omega);have ng:=Z (HG.o.keep bj.o);have c2:w2.cell? ⟨Bm,0,none⟩=some vm:=b9.o.bm.cell 0;have c5:w2.cell? ⟨Bo,0,none⟩=some vo:=b9.o.bo.cell 0;have c6:w2.frozen? ⟨Bo,0,none⟩=false:=b9.o.bo.frozen 0;have jr:Bo<w2.heap.size:=by have:=b9.o.hK;omega
   have ex:=Z b9.o.oo;have iC:¬vo.ownBlock=some Bo:=fun he=>by have:=(b9.o.ho Bo (b9.o.oo.ownBlock' Bo he)).1;omega
   have pF:=Z iC;obtain⟨m1,m2,m3,rfl⟩:=b9.o.om.shape;clear hq iC;go_wp2
   go_region_law (first
    |(refine V0 (w0:=w3) (v:=vo) rfl (.tmp 25) (.tmp 28) 77 rfl (A3 (A3 A2)) 31 Tryz.underlying77 SR rfl (by decide) So (Iv w2.heap.size w3.heap.size) (fun b=>So b∨w.heap.size≤b) (by simp[Act.eval]) (by simp[Act.eval]) (by exact vV.o) (by exact cn.o) (fun b h1 h2=>by have:=(b9.o.ho b h1).2;have:=h2.1;omega) (fun b h1=>by have:=(b9.o.ho b h1).2;omega) (fun b h1=>h1.2) (fun b h1=>.inl h1) (fun b h1=>.inr (by have:=h1.1;have:=bj.o.size;omega)) (fun b h1=>.inr (by have:=bj.o.size;omega)) ft ?_;intro v4 w4 o4 fm;obtain⟨p4,p5,p6,rfl⟩:=o4.shape;have c7:=(fm.cell (p:=⟨Bo,0,none⟩) nL pF.o).trans qT;have c8:=(fm.frozen (p:=⟨Bo,0,none⟩) nL pF.o).trans sx)
    |(refine V0 (w0:=w3.drew) (v:=vo) rfl (.tmp 25) (.tmp 28) 77 rfl (A3 (A3 A2)) 31 Tryz.underlying77 SR rfl (by decide) So (Iv w2.heap.size w3.heap.size) (fun b=>So b∨w.heap.size≤b) (by simp[Act.eval]) (by simp[Act.eval]) (by exact vV.o) (by exact cn.o) (fun b h1 h2=>by have:=(b9.o.ho b h1).2;have:=h2.1;omega) (fun b h1=>Nat.lt_of_lt_of_le (b9.o.ho b h1).2 bO) (fun b h1=>h1.2) (fun b h1=>.inl h1) (fun b h1=>.inr (by have:=h1.1;have:=bj.o.size;omega)) (fun b h1=>.inr (Nat.le_trans (Nat.le_trans bj.o.size bO) (Nat.le_of_lt h1))) ft ?_;intro v4 w4 o4 fm;obtain⟨p4,p5,p6,rfl⟩:=o4.shape;have c7:=(fm.cell (p:=⟨Bo,0,none⟩) nL pF.o).trans qT;have c8:=(fm.frozen (p:=⟨Bo,0,none⟩) nL pF.o).trans sx)
    |(go_simp;go_at_call 82;refine(EO _ rows _ (by exact ng.o) bJ HR.o).mono ?_;rintro e w3 ⟨v3,rfl,o3,b3⟩;obtain⟨r1,r2,r3,rfl⟩:=o3.shape;
      have vW:Below w2.heap.size w2 w3:=⟨b3.os,b3.tape,b3.output,b3.size,b3.block⟩;
      have bO:=vW.size;
      have cn:=Z o3;
      have vV:=Z ((A3 (A3 (A3 A2))).same (A5 vW fun b hb=>(b9.o.ho b hb).2) ex.o);
      have qT:=(vW.cell (p:=⟨Bo,0,none⟩) jr).trans c5;have nL:Bo<w3.heap.size:=Nat.lt_of_lt_of_le jr bO;have xw:=((Below.pureAlloc w3 (.cells #[Value.slice r1 r2 r3] 31)).cell (p:=⟨Bo,0,none⟩) nL).trans qT;
      have sx:=(vW.frozen (p:=⟨Bo,0,none⟩) jr).trans c6;clear o3 b3))
   all_goals go_wp2
   all_goals refine bodyPost_ret (v:=.tuple #[]) (by simp[results,Tryz.results177,go_sem]) rfl ⟨rfl,?_⟩
   all_goals
    rw[eR.o];have hx:Ar (fun b=>vo.ownBlock=some b) w3 w4:=⟨fm.os,fm.tape,fm.output,fm.size,fm.block⟩;obtain⟨s5,y5⟩:=aJ.o.more Wf.o (bj.o.trans_pure vW (Nat.le_refl _)) (vo2:=.slice p4 p5 p6) (out2:=out++[rows]) o4 hx;exact⟨_,Sm,_,_,s5,fun b hb=>.inl hb,fun b hb=>hb.1,y5⟩
  ·have eR:=Z (show Dk R C 0 rows=[] from by unfold Dk;rw[if_neg hq]);rw[decide_eq_false hq];clear hq;go_wp2;refine bodyPost_ret (v:=.tuple #[]) (by simp[results,Tryz.results177,go_sem]) rfl ⟨rfl,?_⟩;rw[eR.o,List.append_nil];exact⟨_,Sm,_,So,b9.o,fun b hb=>.inl hb,fun b hb=>.inl hb,Ar.of_pure bj.o _⟩
 |succ f ih=>
  intro vals rows vm Sm vo So out w bE hrok dL aP bq;have IH:=Z ih;have aJ:=Z bE;have ru:=Z hrok;have aH:rows.length<R.length:=by omega
  have fa:=Z aP;have fx:((rows.length:Int)==(R.length:Int))=false:=by rw[beq_eq_false_iff_ne];omega
  have c0:w.cell? ⟨Bp,0,none⟩=some (.slice aa R.length ca):=bE.bp.cell 0;have c1:w.cell? ⟨Bp,1,none⟩=some (.slice ab C.length cb):=bE.bp.cell 1;have nk:=Z dL;have df:=Z bq;have hK:=bE.hK;obtain⟨b,off,cpr,he,eU,-⟩:=Ha.o.inv_ne (by omega);obtain⟨rfl,-⟩:aa=some ⟨b,off,none⟩∧ca=cpr:=by simpa using he
  obtain⟨u,aQ,hu⟩:=Sl.at Ha.o (BE [] aH);have nM:=bE.base.mono hn;have hu:Ab W0 u (R.getD rows.length []):=hu;have Hu:=Z (hu.keep nM);rw[←nM.cell (p:=⟨b,off+rows.length,none⟩) eU] at aQ;obtain⟨q1,q2,rfl,-⟩:=hu;obtain⟨rs,hrs⟩:∃rs,rs=R.getD rows.length []:=⟨_,rfl⟩;rw[←hrs] at aQ Hu;have Hrs:=Z hrs;obtain⟨L,hL⟩:∃L,L=Bj rs C.length:=⟨_,rfl⟩;have HL:=Z hL;have mh:L.length≤6:=by rw[hL];exact PE rr rs
  clear ih bE hrok aP dL bq nM he hrs hL;go_enter Tryz.func177,Tryz.ntmps177
  go_upto_region 4 with(fail)
  go_cut [38,39,40] (fun s38 s39 s40 wx=>∃aL cL,s38=.slice aL L.length cL∧s39=.int .i64 L.length∧s40=.int .i64 0∧Hid (A4 32 (A4 3 A7) (Iv w.heap.size wx.heap.size) wx (.slice aL L.length cL) L)∧Hid (Below w.heap.size w wx))
  case first=>
   go_region_with (go_at_call 179;refine(Sz _ rs C.length _ (by exact Hu.o) hC1 rr).mono ?_;rintro e w1 ⟨v1,rfl,o1,b1⟩;rw[←HL.o] at o1;obtain⟨aL,cL,rfl,-⟩:=id o1.grid)
   all_goals go_wp2_with (fail)
   all_goals go_meet
   all_goals exact⟨_,_,rfl,rfl,rfl,by exact o1,⟨b1.os,b1.tape,b1.output,b1.size,b1.block⟩⟩
  case rest=>
   obtain⟨aL,cL,rfl,rfl,rfl,iX,HbL⟩:=hcut;obtain⟨wl,rfl⟩:∃wl,wl=wc:=⟨_,rfl⟩;have oM:=HbL.o.size;have HstL:=Z (aJ.o.keep Wf.o HbL.o);have rC:L.length≤9223372036854775807:=by omega
   clear c0 c1 aQ;go_wp2;go_loopw [40] (fun i wr=>∃k:Nat,k≤L.length∧i=.int .i64 k∧∃vm' Sm' vo' So',Hid (Zj n Bp Bm Bo Bf K (.slice (some ⟨b,off,none⟩) R.length ca) (.slice ab C.length cb) (.func (.func 177) #[] #[.pointer (some ⟨Bp,0,none⟩),.pointer (some ⟨Bm,0,none⟩),.pointer (some ⟨Bo,0,none⟩),.pointer (some ⟨Bf,0,none⟩)]) W0 wr vm' vals Sm' vo' (out++D4 R C f rows L k) So')∧Hid (∀b,Sm' b→Sm b∨wl.heap.size≤b)∧Hid (∀b,So' b→So b∨wl.heap.size≤b)∧Hid (Ar (Wr Sm So Bm Bo) wl wr)) (fun i _=>L.length-(intOf i).toNat)
   case atStart=>exact⟨0,Nat.zero_le _,rfl,_,_,_,_,by rw[MX,List.append_nil];exact HstL.o,fun b hb=>.inl hb,fun b hb=>.inl hb,Ar.refl _ _⟩
   case round=>
    obtain⟨k,hk,rfl,vm',Sm',vo',So',Hs,HSm,HSo,Ho⟩:=hrel;obtain⟨wo,rfl⟩:∃wo:World,wo=wr:=⟨_,rfl⟩;have xR:=Ho.o.size;by_cases hltk:k<L.length
    ·obtain⟨l,hl⟩:∃l,L[k]? =some l:=⟨_,List.getElem?_eq_getElem hltk⟩;obtain⟨gL,capL,heL,-⟩:=iX.o.inv_ne (by omega);simp only[Value.slice.injEq,true_and] at heL;obtain⟨rfl,ct⟩:=heL;subst ct;have gW:A4 32 (A4 3 A7) (Iv w.heap.size wl.heap.size) wo (.slice (some ⟨gL,0,none⟩) L.length cL) L:=A4.only (A3 A2) iX.o Ho.o (fun b hb=>hb.2) (fun b hb hc=>by
      rcases hc with h|h|h|h
      ·have:=(aJ.o.hm b h).1.2;have:=hb.1;omega
      ·have:=(aJ.o.ho b h).2;have:=hb.1;omega
      ·subst h;have:=Wf.o.h4;have:=Wf.o.h5;have:=hb.1;omega
      ·subst h;have:=hb.1;omega)
     obtain⟨-,-,-,-,T,uk,aM,fD,hT,-⟩:=gW.focus (A3 A2) hl;have vX:=fD.sl (fun _ _ _ _ h=>h) A2;obtain⟨y1,y2,y3,rfl⟩:=fD.shape;have Hsl2:=Z vX;have HT:=Z hT;have Hl:=Z hl;have c2:wo.cell? ⟨Bm,0,none⟩=some vm':=Hs.o.bm.cell 0;have hvl:vals.length=rows.length:=ru.o.1;have hvl5:vals.length<1099511627776:=by omega
     obtain⟨m1,m2,m3,rfl⟩:=Hs.o.om.shape;have Hom:=Z Hs.o.om;have hBmK:Bm<K:=by have:=Wf.o.h4;have:=Wf.o.h5;omega
     have vY:=Z (show ¬(Value.slice m1 m2 m3).ownBlock=some Bm from fun he=>by have:=(Hs.o.hm Bm (Hs.o.om.ownBlock' Bm he)).1.1;omega);have Hvl:=Z hvl;have hKo:=Hs.o.hK;have vZ:Bm<wo.heap.size:=by omega
     clear gW fD hT hl vX hvl;go_wp2_with (first|(at_builtin;(refine Gw rfl _ _ 31 rfl Zf 32 Tryz.underlying31 Es rfl (by decide) Sm' (fun _=>False) (fun b=>Sm' b∨wo.heap.size≤b) _ _ vals (.slice y1 y2 y3) rfl rfl (by exact Hom.o) (by exact⟨rfl,rfl⟩) (fun _ _ h=>h) (fun b hb=>(Hs.o.hm b hb).1.2) (fun _ h=>h.elim) (fun _ h=>.inl h) (fun _ h=>h.elim) (fun b h=>.inr (Nat.le_of_lt h)) hvl5 ?_);intro v2 w2 hown2 honly2;obtain⟨z1,z2,z3,rfl⟩:=hown2.shape;have d1:=(honly2.cell (p:=⟨Bm,0,none⟩) vZ vY.o).trans c2;have d2:=(honly2.frozen (p:=⟨Bm,0,none⟩) vZ vY.o).trans (Hs.o.bm.frozen 0);have kg:=(Hs.o.push Wf.o hown2 honly2).1.bf.cell 0)|fail);obtain⟨s3,O3⟩:=Hs.o.push Wf.o hown2 honly2;have hs2:=honly2.size;obtain⟨w3,kj⟩:∃w3,w3=w2.setCell ⟨Bm,0,none⟩ (.slice z1 z2 z3):=⟨_,rfl⟩;have eB:w3.heap.size=w2.heap.size:=by rw[kj,A9]
     rw[←kj] at s3 O3 kg⊢;have hr1:IJ (Wr Sm So Bm Bo) wl vals rows:=ru.o.go (Ar.of_pure HbL.o _) (fun b hb=>.inl hb);have fD:IJ (Wr Sm' So' Bm Bo) wo vals rows:=hr1.go Ho.o (Mr HSm.o HSo.o);have hr3:IJ (Wr (fun b=>(Sm' b∨wo.heap.size≤b)∧b<w2.heap.size) So' Bm Bo) w3 vals rows:=fD.go O3 (Mr (fun b hb=>hb.1) (fun b hb=>.inl hb));have hr4:=hr3.snoc (v:=.slice y1 y2 y3) (x:=l) (by
      refine(BY A2).mono ?_ ((BY A2).same (fun b hb=>O3.block b (by have:=(HT.o b hb).1.2;omega) ?_) Hsl2.o)
      ·intro b hb;have h1:=(HT.o b hb).1.1;have h2:=(HT.o b hb).1.2;refine⟨by omega,?_⟩;rintro(h|h|h|h)
       ·rcases h.1 with h5|h5
        ·rcases HSm.o b h5 with h6|h6
         ·have:=(aJ.o.hm b h6).1.2;omega
         ·omega
        ·omega
       ·rcases HSo.o b h with h6|h6
        ·have:=(aJ.o.ho b h6).2;omega
        ·omega
       ·omega
       ·omega
      ·have h1:=(HT.o b hb).1.1;have h2:=(HT.o b hb).1.2;rintro(h|h|h|h)
       ·rcases HSm.o b h with h6|h6
        ·have:=(aJ.o.hm b h6).1.2;omega
        ·omega
       ·rcases HSo.o b h with h6|h6
        ·have:=(aJ.o.ho b h6).2;omega
        ·omega
       ·omega
       ·omega)
     have iL:(out++D4 R C f rows L k).length+6^f≤1099511627775:=by
      have h1:=OZ (R:=R) rr f rows L k;have h2:(k+1)*6^f≤6*6^f:=Nat.mul_le_mul_right _ (by omega);have h3:=df.o;rw[Nat.pow_succ] at h3;rw[Nat.succ_mul] at h2;rw[List.length_append];omega
     have hIH:=IH.o _ _ _ _ _ _ _ _ s3 hr4 (nk.o.snoc (rs:=rs) (by rw[←HL.o];exact List.mem_of_getElem? Hl.o)) (by rw[List.length_append,List.length_singleton];have:=fa.o;omega) iL;rw[show(((rows++[l]).length:Nat):Int)=(rows.length:Int)+1 from by rw[List.length_append,List.length_singleton];omega] at hIH;have O3':=Z O3;clear hr1 fD hr3 hr4 s3 O3 hown2 honly2 d1 d2 c2 aM kg kj iL;refine hIH.mono ?_;rintro e w4 ⟨rfl,vm4,Sm4,vo4,So4,st4,hSm4,hSo4,O4⟩;obtain⟨g,cap,rfl,ak,st5,O5⟩:=st4.pop Wf.o;have d3:w4.cell? ⟨Bm,0,none⟩=some (.slice (some ⟨g,0,none⟩) (vals.length+1) cap):=st4.bm.cell 0;have d4:=st4.bm.frozen 0;rw[Hvl.o] at d3 ak st5 O5;have fS:=O4.size;have ve:∀b,So4 b→So' b∨wo.heap.size≤b:=fun b hb=>(hSo4 b hb).imp id (fun h=>by omega);have vf:∀b,Sm4 b→Sm' b∨wo.heap.size≤b:=fun b hb=>(hSm4 b hb).elim (fun h=>h.1) (fun h=>.inr (by omega));have vg:=Z (show ∀b,Sm4 b→Sm b∨wl.heap.size≤b from fun b hb=>(vf b hb).elim (fun h=>HSm.o b h) (fun h=>.inr (by omega)));have vh:=Z (show ∀b,So4 b→So b∨wl.heap.size≤b from fun b hb=>(ve b hb).elim (fun h=>HSo.o b h) (fun h=>.inr (by omega)));have H5:=Z (((Ho.o.trans' (O3'.o.mono fun b hb _=>Mr HSm.o HSo.o b hb)).trans' (O4.mono fun b hb _=>(Mr (Sm:=Sm') (So:=So') (n:=wo.heap.size) (fun b hb=>hb.1) (fun b hb=>.inl hb) b hb).elim (fun h=>Mr HSm.o HSo.o b h) (fun h=>.inr (by omega)))).trans' (O5.mono fun b hb _=>Mr vg.o vh.o b hb));have H6:=Z st5;have kN:=Z (N3 (R:=R) (C:=C) (f:=f) (rows:=rows) Hl.o);clear hIH st4 hSm4 hSo4 O4 st5 O5 ve vf;go_wp2;go_roundw
     case rel=>
      exact⟨k+1,by omega,by go_num,_,Sm4,vo4,So4,by rw[kN.o,←List.append_assoc];exact H6.o,vg.o,vh.o,H5.o⟩
     case measure=>simp[intOf];omega
    ·have aZ:=Z (show D4 R C f rows L k=Dk R C (f+1) rows from OB (by rw[HL.o,Hrs.o]) (by omega));have dW:decide ((k:Int)<(L.length:Int))=false:=by simp;omega
     have H5:=Z ((Ar.of_pure HbL.o (Wr Sm So Bm Bo)).trans' (Ho.o.mono fun b hb _=>.inl hb));go_wp2;refine bodyPost_end (results_none rfl _ _ _) rfl ⟨rfl,?_⟩;exact⟨vm',Sm',vo',So',by rw[←aZ.o];exact Hs.o,fun b hb=>(HSm.o b hb).imp id (fun h=>by omega),fun b hb=>(HSo.o b hb).imp id (fun h=>by omega),H5.o⟩
theorem VT{f:Nat}(h:f≤5):6^f≤7776:=by
 have:=Nat.pow_le_pow_right (n:=6) (by decide) h;simpa using this
theorem TJ(R C:List (List Int)):(CH R C).length≤7776:=by
 cases h:Ba R C
 ·rw[Kn h];simp
 ·rw[JE h];obtain⟨-,h2,-,h4⟩:=FO h;exact Nat.le_trans (RX h4 _ _) (VT h2)
theorem Tn(a b:Value)(R C:List (List Int))(w:World)(h1:Ak w a R)(h2:Ak w b C)(fJ:∀r∈R,r.length≤1048576)(i7:∀r∈C,r.length≤1048576):
  Calls Tryz.prog 117 #[.agg #[a,b]] w fun e w'=>∃v',e=.returned (.tuple #[v',.bool (Ba R C)])∧A4 31 (A4 32 (A4 3 A7)) (Iv w.heap.size w'.heap.size) w' v' (CH R C)∧Below w.heap.size w w':=by
 have ej:=Z fJ;have mF:=Z i7;have H1:=Z h1;have H2:=Z h2;obtain⟨aa,ca,rfl,-⟩:=id h1;obtain⟨ab,cb,rfl,-⟩:=id h2;obtain⟨W1,hW1⟩:∃W1,W1=w.alloc (.cells #[.slice aa R.length ca,.slice ab C.length cb] 85):=⟨_,rfl⟩;have dg:Below w.heap.size w W1:=by rw[hW1];exact Below.pureAlloc _ _
 have jM:W1.heap.size=w.heap.size+1:=by rw[hW1];simp
 have kB:Aw W1 w.heap.size #[.slice aa R.length ca,.slice ab C.length cb] 85:=by rw[hW1];exact Aw.new _ _ _
 have G1:=Z (h1.keep dg);have G2:=Z (h2.keep dg);have cj:=Z dg;have iZ:=Z kB;have ey:=Z jM;clear h1 h2 fJ i7 dg jM kB;cases aD:Ba R C
 ·have Hr:=Z (Kn aD);have aS:=Z aD;clear aD;go_enter Tryz.func117,Tryz.ntmps117;subst hW1;go_wp2_with (fail);refine(KQ _ _ _ _ _ G1.o G2.o ej.o mF.o).mono ?_;rintro e w2 ⟨rfl,dc⟩;have b2:=cj.o.trans_pure (show Below _ _ w2 from by rw[dc];exact Below.pureAlloc _ _) (Nat.le_refl _);rw[aS.o];clear dc;go_wp2
  go_ret2
  exact⟨_,rfl,by rw[Hr.o];exact A4.nil _ _ _ _,b2⟩
 obtain⟨hr1,hr5,hc1,hc5⟩:=FO aD;have Hr:=Z (JE aD);have aS:=Z aD;clear aD;go_enter Tryz.func117,Tryz.ntmps117;subst hW1;go_wp2_with (fail);refine(KQ _ _ _ _ _ G1.o G2.o ej.o mF.o).mono ?_;rintro e w2 ⟨rfl,dc⟩;have b2:Below (w.alloc (.cells #[.slice aa R.length ca,.slice ab C.length cb] 85)).heap.size (w.alloc (.cells #[.slice aa R.length ca,.slice ab C.length cb] 85)) w2:=by rw[dc];exact Below.pureAlloc _ _
 rw[aS.o];clear dc;have fH:=Z (cj.o.trans_pure b2 (Nat.le_refl _));have fj:=Z (iZ.o.keep b2);have mL:w.heap.size<w2.heap.size:=by have:=b2.size;rw[ey.o] at this;omega
 clear b2 G1 G2 cj iZ ey;obtain⟨F,hF⟩:∃F:Value,F=.func (.func 177) #[] #[.pointer (some ⟨w.heap.size,0,none⟩),.pointer (some ⟨w2.heap.size+1,0,none⟩),.pointer (some ⟨w2.heap.size,0,none⟩),.pointer (some ⟨w2.heap.size+1+1,0,none⟩)]:=⟨_,rfl⟩;obtain⟨W6,hW6⟩:∃W6,W6=((w2.alloc (.cells #[.slice none 0 0] 77)).alloc (.cells #[.slice none 0 0] 31)).alloc (.cells #[F] 138):=⟨_,rfl⟩;have po:Below w2.heap.size w2 W6:=by rw[hW6];exact(((Below.refl _ _).alloc (Nat.le_refl _) _).alloc (by simp) _).alloc (by simp;omega) _
 have z6:W6.heap.size=w2.heap.size+3:=by rw[hW6];simp
 have wf:SWf w.heap.size w.heap.size (w2.heap.size+1) w2.heap.size (w2.heap.size+1+1) (w2.heap.size+3):=⟨Nat.le_refl _,by omega,by omega,by omega,by omega⟩;have bE:Zj w.heap.size w.heap.size (w2.heap.size+1) w2.heap.size (w2.heap.size+1+1) (w2.heap.size+3) (.slice aa R.length ca) (.slice ab C.length cb) F w W6 (.slice none 0 0) [] (fun _=>False) (.slice none 0 0) [] (fun _=>False):=by
  refine⟨fH.o.trans_pure po (Nat.le_refl _),fj.o.keep po,?_,?_,?_,A4.nil _ _ _ _,A4.nil _ _ _ _,fun _ h=>h.elim,fun _ h=>h.elim,by omega⟩
  ·rw[hW6];have h1:=Aw.new (w2.alloc (.cells #[.slice none 0 0] 77)) #[.slice none 0 0] 31;have h2:=h1.keep (Below.pureAlloc _ (.cells #[F] 138));simpa using h2
  ·rw[hW6];exact(((Aw.new w2 _ _).keep (Below.pureAlloc _ _)).keep (Below.pureAlloc _ _))
  ·rw[hW6];have:=Aw.new ((w2.alloc (.cells #[.slice none 0 0] 77)).alloc (.cells #[.slice none 0 0] 31)) #[F] 138;simpa using this
 have hp6:=VT hr5;have lM:=A5s wf hF (Nat.le_refl _) (Nat.le_refl _) H1.o H2.o hr1 hr5 hc1 hc5 R.length [] [] _ _ _ _ [] W6 bE ⟨rfl,fun k v x h _=>by simp at h⟩ (fun row hr=>by cases hr) (by simp) (by simp;omega);have c6:W6.cell? ⟨w2.heap.size+1+1,0,none⟩=some F:=bE.bf.cell 0;have qU:=Z lM;have oJ:=Z (fH.o.trans_pure po (Nat.le_refl _));clear lM bE po wf z6;subst hF;subst hW6;go_wp2_with (fail);refine(qU.o).mono ?_;rintro e w7 ⟨rfl,vm',Sm',vo',So',st7,hSm,hSo,hO⟩;have c7:w7.cell? ⟨w2.heap.size,0,none⟩=some vo':=st7.bo.cell 0;have ex:=Z st7.oo;have Hho:=Z st7.ho;have mM:=Z st7.base;clear st7 hSm hSo hO;go_wp2
 go_ret2
 refine⟨vo',rfl,?_,mM.o⟩;rw[Hr.o];have h:=ex.o;rw[List.nil_append] at h;exact(A3 (A3 (A3 A2))).mono (fun b hb=>⟨by have:=(Hho.o b hb).1;omega,(Hho.o b hb).2⟩) h
theorem Se{α β:Type}(f:α→β){l:List α}{k:Nat}{x:α}(h:l[k]? =some x):(l.take (k+1)).map f=(l.take k).map f++[f x]:=by
 rw[List.take_add_one,h];simp
theorem JP(m:List (List Int)):(Ag m).size≤1048576:=by
 unfold Ag
 split
 ·rename_i aD
  have h2:=(Fi aD).bulk;have h3:=DP ⟨#[47]⟩ (m.map Bd);unfold EG;omega
 ·simp
def BW(xs:List (List (List Int))):List ByteArray:=xs.map Ag
theorem KZ(xs:List (List (List Int))):(BW xs).length=xs.length:=List.length_map _
theorem A4.strs{E:TypeId}{S:Bk}{w:World}{v:Value}{xs:List ByteArray}(h:A4 E Gd S w v xs):AM w v xs:=(BY C1).rd (h.sl (fun _ _ _ _ h=>h) C1)
theorem OI(v:Value)(l:List (List (List Int)))(w:World)(hv:Gm w v l)(hl:l.length≤1073741824):Calls Tryz.prog 49 #[v] w (M7 9 Gd w (BW l)):=by
 have Hv:=Z hv;obtain⟨a,cap0,rfl,-⟩:=hv;go_enter Tryz.func49,Tryz.ntmps49;go_wp2;go_loopw [3,5,8] (fun v _ i wr=>∃k:Nat,k≤l.length∧i=.int .i64 k∧A4 9 Gd (Iv w.heap.size wr.heap.size) wr v ((l.take k).map Ag)∧Below w.heap.size w wr) (fun _ _ i _=>l.length-(intOf i).toNat)
 case atStart=>exact⟨0,Nat.zero_le _,rfl,A4.nil _ _ _ _,Below.refl _ _⟩
 case round=>
  obtain⟨k,hk,rfl,aB,aA⟩:=hrel;obtain⟨wo,rfl⟩:∃wo:World,wo=wr:=⟨_,rfl⟩;have aV:=aA.size;by_cases aH:k<l.length
  ·obtain⟨x,hx⟩:∃x,l[k]? =some x:=⟨_,List.getElem?_eq_getElem aH⟩;obtain⟨b,off,cpr,he,hb,-⟩:=Hv.o.inv_ne (by omega);obtain⟨rfl,-⟩:a=some ⟨b,off,none⟩∧cap0=cpr:=by simpa using he
   obtain⟨u,aQ,hu⟩:=Sl.at Hv.o hx;have hu:Ak w u x:=hu;have Hu:=Z (hu.keep aA);rw[←aA.cell (p:=⟨b,off+k,none⟩) hb] at aQ;have aJ:=Z (Se Ag hx);have ah:((l.take k).map Ag).length<1099511627776:=by simp;omega
   obtain⟨p1,p2,p3,rfl⟩:=aB.shape;have aC:=Z aB;clear hx aB he hu;go_wp2_with (fail);refine(Fh _ x _ Hu.o).mono ?_;rintro e w1 ⟨rfl,dU⟩;have cX:wo.heap.size≤w1.heap.size:=dU.size;have aI:(Ag x).size≤9223372036854775807:=by have:=JP x;omega
   go_wp2_with (first|(at_builtin;(refine Aa rfl _ _ 27 rfl C1 9 Tryz.underlying27 Fp rfl (by decide) w.heap.size wo.heap.size aV cX rfl rfl (by exact A4.keep C1 aC.o dU (Nat.le_refl _)) (by exact⟨rfl,aI⟩) ah ?_);intro v2 w2 hown2 aT _)|fail);have au:=(aA.trans (dU.mono aV)).trans aT;have ae:=Z hown2;clear hown2;go_wp2;go_roundw
   case rel=>exact⟨k+1,by omega,by go_num,by rw[aJ.o];exact ae.o,au⟩
   case measure=>simp[intOf];omega
  ·have aF:=aB;rw[List.take_of_length_le (by omega)] at aF;obtain⟨p1,p2,p3,rfl⟩:=aB.shape;have aZ:=Z aF;clear aB aF;go_wp2
   go_ret
   exact⟨_,rfl,aZ.o,aA⟩
theorem NS(v:Value)(l:List (List (List Int)))(w:World)(hv:Gm w v l)(hl:l.length≤1073741824):Calls Tryz.prog 130 #[v] w (M7 9 Gd w (BW l)):=by
 have Hv:=Z hv;obtain⟨a,cap0,rfl,-⟩:=hv;go_enter Tryz.func130,Tryz.ntmps130;go_wp2;go_loopw [3,5,9] (fun v _ i wr=>∃k:Nat,k≤l.length∧i=.int .i64 k∧A4 9 Gd (Iv w.heap.size wr.heap.size) wr v ((l.take k).map Ag)∧Below w.heap.size w wr) (fun _ _ i _=>l.length-(intOf i).toNat)
 case atStart=>exact⟨0,Nat.zero_le _,rfl,Bq _ _ _ C1,Below.pureAlloc _ _⟩
 case round=>
  obtain⟨k,hk,rfl,aB,aA⟩:=hrel;obtain⟨wo,rfl⟩:∃wo:World,wo=wr:=⟨_,rfl⟩;have aV:=aA.size;by_cases aH:k<l.length
  ·obtain⟨x,hx⟩:∃x,l[k]? =some x:=⟨_,List.getElem?_eq_getElem aH⟩;obtain⟨b,off,cpr,he,hb,-⟩:=Hv.o.inv_ne (by omega);obtain⟨rfl,-⟩:a=some ⟨b,off,none⟩∧cap0=cpr:=by simpa using he
   obtain⟨u,aQ,hu⟩:=Sl.at Hv.o hx;have hu:Ak w u x:=hu;have Hu:=Z (hu.keep aA);rw[←aA.cell (p:=⟨b,off+k,none⟩) hb] at aQ;have aJ:=Z (Se Ag hx);have ah:((l.take k).map Ag).length<1099511627776:=by simp;omega
   obtain⟨p1,p2,p3,rfl⟩:=aB.shape;have aC:=Z aB;clear hx aB he hu;go_wp2_with (fail);refine(Ex _ x _ Hu.o).mono ?_;rintro e w1 ⟨rfl,dU⟩;have cX:wo.heap.size≤w1.heap.size:=dU.size;have aI:(Ag x).size≤9223372036854775807:=by have:=JP x;omega
   go_wp2_with (first|(at_builtin;(refine Aa rfl _ _ 27 rfl C1 9 Tryz.underlying27 Fp rfl (by decide) w.heap.size wo.heap.size aV cX rfl rfl (by exact A4.keep C1 aC.o dU (Nat.le_refl _)) (by exact⟨rfl,aI⟩) ah ?_);intro v2 w2 hown2 aT _)|fail);have au:=(aA.trans (dU.mono aV)).trans aT;have ae:=Z hown2;clear hown2;go_wp2;go_roundw
   case rel=>exact⟨k+1,by omega,by go_num,by rw[aJ.o];exact ae.o,au⟩
   case measure=>simp[intOf];omega
  ·have aF:=aB;rw[List.take_of_length_le (by omega)] at aF;obtain⟨p1,p2,p3,rfl⟩:=aB.shape;have aZ:=Z aF;clear aB aF;go_wp2
   go_ret
   exact⟨_,rfl,aZ.o,aA⟩
theorem Zm:(Tryz.prog.info? 31).map (fun i=>(i.zero,i.size,i.bytes))=some (some (.slice none 0 0),1,24):=by kernel_rfl
def A61(S:Bk)(w:World)(out:List (List (List Int)))(e:Ending)(w':World):Prop:=
 ∃v' S',e=.returned v'∧A4 31 (A4 32 (A4 3 A7)) S' w' v' out∧(∀b,S' b→(S b∨w.heap.size≤b)∧b<w'.heap.size)∧Ar S w w'
theorem A3t{n0:Nat}{R C:List (List Int)}(hJ:R.length≤5)(hC1:1≤C.length)(rr:C.length≤5)(f:Nat):
  ∀(a b vo vd:Value)(rows:List (List Int))(S:Bk)(out:List (List (List Int)))(w:World),Sl (Sl A7) (fun b=>b<n0) w a R→Sl (Sl A7) (fun b=>b<n0) w b C→n0≤w.heap.size→(∀b,S b→n0≤b∧b<w.heap.size)→
   A4 31 (A4 32 (A4 3 A7)) S w vo out→Sl (Sl A7) (fun b=>b<w.heap.size∧¬S b) w vd rows→XU C.length rows→rows.length+f=R.length→out.length+6^f≤1099511627775→
   Calls Tryz.prog 268 #[vo,vd,.agg #[a,b]] w (A61 S w (out++Dk R C f rows)):=by
 induction f with
 |zero=>
  intro a b vo vd rows S out w ha hb dY hS ho hd dL aP bq;have Ha:=Z ha;have Hb:=Z hb;have Hd:=Z hd;obtain⟨aa,ca,rfl,-⟩:=id ha;obtain⟨ab,cb,rfl,-⟩:=id hb;obtain⟨ad,cd,rfl,-⟩:=id hd;obtain⟨W1,hW1⟩:∃W1,W1=w.alloc (.cells #[.slice aa R.length ca,.slice ab C.length cb] 85):=⟨_,rfl⟩;have dg:Below w.heap.size w W1:=by rw[hW1];exact Below.pureAlloc _ _
  have kB:Aw W1 w.heap.size #[.slice aa R.length ca,.slice ab C.length cb] 85:=by rw[hW1];exact Aw.new _ _ _
  have c0:W1.cell? ⟨w.heap.size,0,none⟩=some (.slice aa R.length ca):=kB.cell 0;have fx:((rows.length:Int)==(R.length:Int))=true:=by rw[beq_iff_eq];omega
  have hlr:rows.length≤R.length:=by omega
  have hlr2:R.length≤rows.length:=by omega
  have oC:=Z (Ak.keep ((BY (BY A2)).mono (fun b hb=>hb.1) hd) dg);have sY:=Z (show Ak w _ C from(BY (BY A2)).mono (S':=fun b=>b<w.heap.size) (fun b hb=>Nat.lt_of_lt_of_le hb dY) hb);have cj:=Z dg;have iZ:=Z kB;have HS:=Z hS;have ex:=Z ho;have nk:=Z dL;have df:=Z bq;obtain⟨o1,o2,o3,rfl⟩:=ho.shape;clear ha hb hd dg kB hS ho dL aP bq;go_enter Tryz.func268,Tryz.ntmps268;subst hW1;go_wp2_with (fail);refine(R2 _ rows _ oC.o).mono ?_;rintro e w2 ⟨a2,b2,rfl,op,au⟩;obtain⟨⟨p1,p2,p3,rfl⟩,⟨q1,q2,q3,rfl⟩⟩:=op.shape;have HGx:=Z op.reads.2;have eU:=cj.o.trans_pure au (Nat.le_refl _);have e1:(w2.alloc (.cells #[.slice p1 p2 p3,.slice q1 q2 q3] 85)).cell? ⟨w.heap.size,1,none⟩=some (.slice ab C.length cb):=((iZ.o.keep au).keep (Below.pureAlloc _ _)).cell 1;have l9:=Z eU;clear op au eU c0;go_wp2_with (fail);refine(MI _ _ (CT rows) C _ (HGx.o.keep (Below.pureAlloc _ _)) ((sY.o.keep l9.o).keep (Below.pureAlloc _ _))).mono ?_;rintro e w3 ⟨rfl,b3⟩;have bM:=Z ((l9.o.trans_pure (Below.pureAlloc _ _) (Nat.le_refl _)).trans_pure b3 (Nat.le_refl _));clear b3 e1;by_cases hq:CT rows=C
  ·have eR:=Z (show Dk R C 0 rows=[rows] from by unfold Dk;rw[if_pos hq]);rw[decide_eq_true hq];clear hq;have bJ:rows.length≤1048576:=by omega
   have HR:=Z (show ∀p∈rows,p.length≤1048576 from fun p hp=>by have:=(nk.o p hp).1;omega);have ng:=Z (Ak.keep ((BY (BY A2)).mono (fun b hb=>hb.1) Hd.o) bM.o);have ft:out.length<1099511627776:=Nat.lt_of_le_of_lt (Nat.le_trans (Nat.le_add_right _ _) df.o) (by decide);go_wp2_with (fail);refine(DG _ rows _ (by exact ng.o) bJ HR.o).mono ?_;rintro e w4 ⟨v4,rfl,o4,b4⟩;obtain⟨r1,r2,r3,rfl⟩:=o4.shape;have bO:=bM.o.size;have ln:=b4.size;have eV:=Z (bM.o.trans_pure b4 (Nat.le_refl _));have fc:=Z o4;have f9:=Z (Below.pureAlloc w4 (.cells #[.slice r1 r2 r3] 31));have Hk:=Z (Aw.new w4 #[.slice r1 r2 r3] 31);have mj:=Z ((A3 (A3 (A3 A2))).same (A5 (eV.o.trans_pure f9.o (Nat.le_refl _)) fun b hb=>(HS.o b hb).2) ex.o);have zB:=Z ((A3 (A3 A2)).same (A5 f9.o fun b hb=>hb.2) fc.o);have fK:(w4.alloc (.cells #[.slice r1 r2 r3] 31)).heap.size=w4.heap.size+1:=by simp
   have rD:=Z fK;clear o4 b4 fK;go_wp2_with (first|(at_builtin;refine F4 rfl _ _ 77 rfl (A3 (A3 A2)) 31 Tryz.underlying77 Zm rfl (by decide) S (Iv w3.heap.size w4.heap.size) rfl rfl (by exact Hk.o.cell 0) (by exact mj.o) (by exact zB.o) (fun b h1 h2=>by have:=(HS.o b h1).2;have:=h2.1;omega) (fun b h1=>by have:=(HS.o b h1).2;have:=rD.o;omega) (fun b h1=>by have:=h1.2;have:=rD.o;omega) ft ?_;intro v6 w6 o6 h6;obtain⟨x1,x2,x3,rfl⟩:=o6.shape)|fail);have lP:=Z o6;have H6:=Z h6;clear o6 h6;go_wp2
   go_ret
   refine⟨_,_,rfl,by rw[eR.o];exact lP.o,fun b hb=>?_,?_⟩
   ·refine⟨?_,hb.2⟩;rcases hb.1 with h|h|h
    ·exact .inl h
    ·exact .inr (by have:=h.1;omega)
    ·exact .inr (by have:=rD.o;omega)
   ·have h1:Ar S w (w4.alloc (.cells #[.slice r1 r2 r3] 31)):=Ar.of_pure (eV.o.trans_pure f9.o (Nat.le_refl _)) S;exact h1.trans' (H6.o.mono fun b hb _=>.inl (mj.o.ownBlock' b hb))
  ·have eR:=Z (show Dk R C 0 rows=[] from by unfold Dk;rw[if_neg hq]);rw[decide_eq_false hq];clear hq;go_wp2
   go_ret
   have bO:=bM.o.size;exact⟨_,S,rfl,by rw[eR.o,List.append_nil];exact(A3 (A3 (A3 A2))).same (A5 bM.o fun b hb=>(HS.o b hb).2) ex.o,fun b hb=>⟨.inl hb,Nat.lt_of_lt_of_le (HS.o b hb).2 bO⟩,Ar.of_pure bM.o S⟩
 |succ f ih=>
  intro a b vo vd rows S out w ha hb dY hS ho hd dL aP bq;have IH:=Z ih;have Ha:=Z ha;have Hb:=Z hb;have Hd:=Z hd;have aH:rows.length<R.length:=by omega
  obtain⟨ba,offa,ca,rfl,hba0,-⟩:=ha.inv_ne (by omega);obtain⟨ab,cb,rfl,-⟩:=id hb;obtain⟨ad,cd,rfl,-⟩:=id hd;obtain⟨W1,hW1⟩:∃W1,W1=w.alloc (.cells #[.slice (some ⟨ba,offa,none⟩) R.length ca,.slice ab C.length cb] 85):=⟨_,rfl⟩;have dg:Below w.heap.size w W1:=by rw[hW1];exact Below.pureAlloc _ _
  have kB:Aw W1 w.heap.size #[.slice (some ⟨ba,offa,none⟩) R.length ca,.slice ab C.length cb] 85:=by rw[hW1];exact Aw.new _ _ _
  have jM:W1.heap.size=w.heap.size+1:=by rw[hW1];simp
  have c0:W1.cell? ⟨w.heap.size,0,none⟩=some (.slice (some ⟨ba,offa,none⟩) R.length ca):=kB.cell 0;have c1:W1.cell? ⟨w.heap.size,1,none⟩=some (.slice ab C.length cb):=kB.cell 1;have fx:((rows.length:Int)==(R.length:Int))=false:=by rw[beq_eq_false_iff_ne];omega
  obtain⟨u,hck0,hu⟩:=Sl.at ha (BE [] aH);obtain⟨rs,hrs⟩:∃rs,rs=R.getD rows.length []:=⟨_,rfl⟩;rw[←hrs] at hu;have aQ:=hck0;rw[←dg.cell (p:=⟨ba,offa+rows.length,none⟩) hba0] at aQ;have Hu:=Z (Ab.keep ((BY A2).mono (S':=fun b=>b<w.heap.size) (fun b hb=>Nat.lt_of_lt_of_le hb dY) hu) dg);obtain⟨q1,q2,rfl,-⟩:=hu;have Hrs:=Z hrs;obtain⟨L,hL⟩:∃L,L=Bj rs C.length:=⟨_,rfl⟩;have HL:=Z hL;have mh:L.length≤6:=by rw[hL];exact PE rr rs
  have cj:=Z dg;have iZ:=Z kB;have ey:=Z jM;have HS:=Z hS;have ex:=Z ho;have nk:=Z dL;have df:=Z bq;have fa:=Z aP;have qB:=Z dY;obtain⟨o1,o2,o3,rfl⟩:=ho.shape;clear ih ha hb hd dg kB hS ho dL aP bq jM hrs hL hck0 dY;go_enter Tryz.func268,Tryz.ntmps268;subst hW1
  go_upto_region 6 with(fail)
  go_cut [42,43,44] (fun s42 s43 s44 wx=>∃aL cL,s42=.slice aL L.length cL∧s43=.int .i64 L.length∧s44=.int .i64 0∧Hid (A4 32 (A4 3 A7) (Iv (w.heap.size+1) wx.heap.size) wx (.slice aL L.length cL) L)∧Hid (Below (w.heap.size+1) (w.alloc (.cells #[.slice (some ⟨ba,offa,none⟩) R.length ca,.slice ab C.length cb] 85)) wx))
  case first=>
   go_region_with (go_at_call 300;refine(SZ _ rs C.length _ (by exact Hu.o) hC1 rr).mono ?_;rintro e w1 ⟨v1,rfl,o1',b1⟩;rw[←HL.o] at o1';obtain⟨aL,cL,rfl,-⟩:=id o1'.grid)
   all_goals go_wp2_with (fail)
   all_goals go_meet
   all_goals exact⟨_,_,rfl,rfl,rfl,(A3 (A3 A2)).mono (fun b hb=>⟨by rw[←ey.o];exact hb.1,hb.2⟩) o1',⟨b1.os,b1.tape,b1.output,b1.size,fun b hb=>b1.block b (by rw[←ey.o] at hb;exact hb)⟩⟩
  case rest=>
   obtain⟨aL,cL,rfl,rfl,rfl,iX,HbL⟩:=hcut;obtain⟨wl,rfl⟩:∃wl,wl=wc:=⟨_,rfl⟩;have oM:=HbL.o.size;have nN:=Z (cj.o.trans (HbL.o.mono (Nat.le_succ _)));have HkL:=Z (show Aw wl w.heap.size #[.slice (some ⟨ba,offa,none⟩) R.length ca,.slice ab C.length cb] 85 from(HbL.o.block _ (Nat.lt_succ_self _)).trans iZ.o);have lr:w.heap.size+1≤wl.heap.size:=by rw[ey.o] at oM;exact oM
   have rC:L.length≤9223372036854775807:=by omega
   clear c0 c1 aQ;go_wp2;go_loopw [0,44] (fun v i wr=>∃k:Nat,k≤L.length∧i=.int .i64 k∧∃S',Hid (A4 31 (A4 32 (A4 3 A7)) S' wr v (out++D4 R C f rows L k))∧Hid (∀b,S' b→(S b∨wl.heap.size≤b)∧b<wr.heap.size)∧Hid (Ar S wl wr)) (fun _ i _=>L.length-(intOf i).toNat)
   case atStart=>exact⟨0,Nat.zero_le _,rfl,S,by rw[MX,List.append_nil];exact(A3 (A3 (A3 A2))).same (A5 nN.o fun b hb=>(HS.o b hb).2) ex.o,fun b hb=>⟨.inl hb,by have:=(HS.o b hb).2;omega⟩,Ar.refl _ _⟩
   case round=>
    obtain⟨k,hk,rfl,S',Hs,HS',Ho⟩:=hrel;obtain⟨wo,rfl⟩:∃wo:World,wo=wr:=⟨_,rfl⟩;have xR:=Ho.o.size;obtain⟨s1,s2,s3,rfl⟩:=Hs.o.shape;have hnS:¬S w.heap.size:=fun h=>by have:=(HS.o _ h).2;omega
    have jl:=Z (HkL.o.only Ho.o hnS);have c0:wo.cell? ⟨w.heap.size,0,none⟩=some (.slice (some ⟨ba,offa,none⟩) R.length ca):=jl.o.cell 0;have c1:wo.cell? ⟨w.heap.size,1,none⟩=some (.slice ab C.length cb):=jl.o.cell 1;by_cases hltk:k<L.length
    ·obtain⟨l,hl⟩:∃l,L[k]? =some l:=⟨_,List.getElem?_eq_getElem hltk⟩;obtain⟨gL,capL,heL,-⟩:=iX.o.inv_ne (by omega);simp only[Value.slice.injEq,true_and] at heL;obtain⟨rfl,ct⟩:=heL;subst ct;have gW:A4 32 (A4 3 A7) (Iv (w.heap.size+1) wl.heap.size) wo (.slice (some ⟨gL,0,none⟩) L.length cL) L:=(A3 (A3 A2)).same (fun b hb=>Ho.o.block b hb.2 fun h=>by have:=(HS.o b h).2;have:=hb.1;omega) iX.o;obtain⟨-,-,-,-,T,uk,aM,fD,hT,-⟩:=gW.focus (A3 A2) hl;obtain⟨y1,y2,y3,rfl⟩:=fD.shape;have eJ:=Z fD;have HT:=Z hT;have Hl:=Z hl;have bJ:rows.length≤1048576:=by omega
     have HR:=Z (show ∀p∈rows,p.length≤1048576 from fun p hp=>by have:=(nk.o p hp).1;omega);have HdO:=Z (show Sl (Sl A7) (fun b=>b<w.heap.size∧¬S b) wo _ rows from(BY (BY A2)).same (fun b hb=>Ho.o.block b (by have:=hb.1;omega) hb.2) ((BY (BY A2)).same (A5 nN.o fun b hb=>hb.1) Hd.o));have uE:=Z (show ∀W,Below wo.heap.size wo W→Ak W _ rows from fun W hW=>Ak.keep ((BY (BY A2)).mono (fun b hb=>Nat.lt_of_lt_of_le hb.1 (by omega)) HdO.o) hW);have HA:=Z ((BY (BY A2)).same (A5 nN.o fun b hb=>Nat.lt_of_lt_of_le hb qB.o) Ha.o);have HB:=Z ((BY (BY A2)).same (A5 nN.o fun b hb=>Nat.lt_of_lt_of_le hb qB.o) Hb.o);have cN:=Z (Below.pureAlloc wo (.cells #[.slice y1 y2 y3] 32));have cx0:=(cN.o.cell (p:=⟨w.heap.size,0,none⟩) jl.o.lt).trans c0;have cx1:=(cN.o.cell (p:=⟨w.heap.size,1,none⟩) jl.o.lt).trans c1;have gE:rows.length<1099511627776:=by omega
     clear gW fD hT hl;go_wp2;have HA3:=Z (show ∀W,Below wo.heap.size wo W→Sl (Sl A7) (fun b=>b<n0) W (.slice (some ⟨ba,offa,none⟩) R.length ca) R from fun W hW=>(BY (BY A2)).same (A5 hW fun b hb=>Nat.lt_of_lt_of_le hb (by have:=qB.o;omega)) ((BY (BY A2)).same (fun b hb=>Ho.o.block b (Nat.lt_of_lt_of_le hb (by have:=qB.o;omega)) (fun h=>by have:=(HS.o b h).1;have hb:b<n0:=hb;omega)) HA.o));have js:=Z (show ∀W,Below wo.heap.size wo W→Sl (Sl A7) (fun b=>b<n0) W (.slice ab C.length cb) C from fun W hW=>(BY (BY A2)).same (A5 hW fun b hb=>Nat.lt_of_lt_of_le hb (by have:=qB.o;omega)) ((BY (BY A2)).same (fun b hb=>Ho.o.block b (Nat.lt_of_lt_of_le hb (by have:=qB.o;omega)) (fun h=>by have:=(HS.o b h).1;have hb:b<n0:=hb;omega)) HB.o));have sL:=Z (show ∀W:World,wo.heap.size≤W.heap.size→n0≤W.heap.size∧∀b,S' b→n0≤b∧b<W.heap.size from fun W hW=>⟨by have:=qB.o;omega,fun b hb=>by
      have h2:=(HS'.o b hb).2;rcases(HS'.o b hb).1 with h|h
      ·exact⟨(HS.o b h).1,by omega⟩
      ·exact⟨by have:=qB.o;omega,by omega⟩⟩)
     have tE:=Z (show ∀W,Below wo.heap.size wo W→A4 31 (A4 32 (A4 3 A7)) S' W (.slice s1 s2 s3) (out++D4 R C f rows L k) from fun W hW=>(A3 (A3 (A3 A2))).same (A5 hW fun b hb=>(HS'.o b hb).2) Hs.o);have Hbr3:=Z (nk.o.snoc (rs:=rs) (l:=l) (by rw[←HL.o];exact List.mem_of_getElem? Hl.o));have vj:=Z (show(rows++[l]).length+f=R.length from by rw[List.length_append,List.length_singleton];have:=fa.o;omega);have ml:=Z (show(out++D4 R C f rows L k).length+6^f≤1099511627775 from by
      have h1:=OZ (R:=R) rr f rows L k;have h2:(k+1)*6^f≤6*6^f:=Nat.mul_le_mul_right _ (by omega);have h3:=df.o;rw[Nat.pow_succ] at h3;rw[Nat.succ_mul] at h2;rw[List.length_append];omega)
     have uF:=Z (show ∀b,S' b→¬T b from fun b h1 h2=>by
      have h3:=(HT.o b h2).1;have h4:=h3.1;have h5:=h3.2;rcases(HS'.o b h1).1 with h|h
      ·have:=(HS.o b h).2;omega
      ·omega)
     have kN:=Z (N3 (R:=R) (C:=C) (f:=f) (rows:=rows) Hl.o);have iE:=Z (Aw.new wo #[.slice y1 y2 y3] 32)
     go_region_law (first
      |(refine Iz (w:=w1.alloc (.cells #[.slice y1 y2 y3] 32)) (v:=.slice r1 r2 r3) (u:=.slice y1 y2 y3) (x:=l) (gb:=w1.heap.size) (c:=1) rfl (.tmp 50) (.tmp 52) 31 rfl (A3 A2) 32 Tryz.underlying31 JW rfl (by decide) (Iv wo.heap.size w1.heap.size) T (by simp[Act.eval]) (by simp[Act.eval]) (by exact(Aw.new w1 #[.slice y1 y2 y3] 32).cell 0) (by exact vk.o) (by exact vn.o) (fun b h1 h2=>by have:=h1.1;have:=(HT.o b h2).1.2;omega) (fun b h1=>Nat.lt_of_lt_of_le h1.2 k9.o.size) (fun b h1=>Nat.lt_of_lt_of_le (HT.o b h1).1.2 vp) gE ?_;intro v3 w3 o3 h3;obtain⟨z1,z2,z3,rfl⟩:=o3.shape;have mm:Below wo.heap.size w1 w3:=(k9.o.mono fV).trans (h3.below (Nat.le_trans fV k9.o.size) (fun b hb=>(fe.o.ownBlock' b hb).1));have B3:=Z (lC.o.trans mm);have kI:=B3.o.size;have d0:=(B3.o.cell (p:=⟨w.heap.size,0,none⟩) jl.o.lt).trans c0;have d1:=(B3.o.cell (p:=⟨w.heap.size,1,none⟩) jl.o.lt).trans c1;have HX:=Z (Nat.le_trans fV k9.o.size);have H3:=Z o3;have uI:=Z (show Sl (Sl A7) (fun b=>b<w3.heap.size∧¬S' b) w3 (.slice z1 z2 z3) (rows++[l]) from(BY (BY A2)).mono (fun b hb=>⟨hb.2,fun h=>(hb.1.elim (fun h1=>by have:=h1.1;have:=(HS'.o b h).2;omega) (fun h1=>h1.elim (fun h1=>uF.o b h h1) (fun h1=>by have:=(HS'.o b h).2;have:=HX.o;omega)))⟩) (H3.o.sl (fun _ _ _ _ h=>h.sl (fun _ _ _ _ h=>h) A2) (BY A2)));clear o3 h3 mm)
      |(refine Iz (w:=w1) (v:=.slice r1 r2 r3) (u:=.slice y1 y2 y3) (x:=l) (gb:=wo.heap.size) (c:=1) rfl (.tmp 50) (.tmp 52) 31 rfl (A3 A2) 32 Tryz.underlying31 JW rfl (by decide) (Iv wo.heap.size w1.heap.size) T (by simp[Act.eval]) (by simp[Act.eval]) (by exact gv.o.cell 0) (by exact fe.o) (by exact ku.o) (fun b h1 h2=>by have:=h1.1;have:=(HT.o b h2).1.2;omega) (fun b h1=>h1.2) (fun b h1=>Nat.lt_of_lt_of_le (HT.o b h1).1.2 eX) gE ?_;intro v3 w3 o3 h3;obtain⟨z1,z2,z3,rfl⟩:=o3.shape;
        have mm:Below wo.heap.size w1 w3:=h3.below fV (fun b hb=>(fe.o.ownBlock' b hb).1);
        have B3:=Z (lC.o.trans mm);have kI:=B3.o.size;have d0:=(B3.o.cell (p:=⟨w.heap.size,0,none⟩) jl.o.lt).trans c0;have d1:=(B3.o.cell (p:=⟨w.heap.size,1,none⟩) jl.o.lt).trans c1;have HX:=Z fV;have H3:=Z o3;have uI:=Z (show Sl (Sl A7) (fun b=>b<w3.heap.size∧¬S' b) w3 (.slice z1 z2 z3) (rows++[l]) from(BY (BY A2)).mono (fun b hb=>⟨hb.2,fun h=>(hb.1.elim (fun h1=>by have:=h1.1;have:=(HS'.o b h).2;omega) (fun h1=>h1.elim (fun h1=>uF.o b h h1) (fun h1=>by have:=(HS'.o b h).2;have:=HX.o;omega)))⟩) (H3.o.sl (fun _ _ _ _ h=>h.sl (fun _ _ _ _ h=>h) A2) (BY A2)));clear o3 h3 mm)
      |(go_simp;go_at_call 122;refine(DG _ rows _ (uE.o _ (by exact⟨rfl,rfl,rfl,Nat.le_refl _,fun _ _=>rfl⟩)) bJ HR.o).mono ?_;rintro e w1 ⟨v1,rfl,o1',b1⟩;obtain⟨r1,r2,r3,rfl⟩:=o1'.shape;have lC:=Z (show Below wo.heap.size wo w1 from⟨b1.os,b1.tape,b1.output,b1.size,b1.block⟩);have fe:=Z ((A3 (A3 A2)).mono (S':=Iv wo.heap.size w1.heap.size) (fun b hb=>⟨Nat.le_trans (Nat.le_refl _) hb.1,hb.2⟩) o1');have fV:=lC.o.size;have eX:wl.heap.size≤w1.heap.size:=Nat.le_trans xR fV;have k9:=Z (Below.pureAlloc w1 (.cells #[.slice y1 y2 y3] 32));have vp:=Nat.le_trans eX k9.o.size;have ku:=Z ((A3 A2).same (A5 lC.o fun b hb=>by have:=(HT.o b hb).1.2;omega) eJ.o);have vk:=Z ((A3 (E:=32) (A3 (E:=3) A2)).same (A5 k9.o fun b hb=>hb.2) fe.o);have vn:=Z ((A3 A2).same (A5 k9.o fun b hb=>by have:=(HT.o b hb).1.2;omega) ku.o);have d0:=(lC.o.cell (p:=⟨w.heap.size,0,none⟩) jl.o.lt).trans c0;have d1:=(lC.o.cell (p:=⟨w.heap.size,1,none⟩) jl.o.lt).trans c1;have dx0:=(k9.o.cell (p:=⟨w.heap.size,0,none⟩) (Nat.lt_of_lt_of_le jl.o.lt fV)).trans d0;have dx1:=(k9.o.cell (p:=⟨w.heap.size,1,none⟩) (Nat.lt_of_lt_of_le jl.o.lt fV)).trans d1;clear o1' b1)
      |(go_simp;go_at_call 122;refine(DG _ rows _ (uE.o _ (by exact⟨cN.o.os,cN.o.tape,cN.o.output,cN.o.size,cN.o.block⟩)) bJ HR.o).mono ?_;rintro e w1 ⟨v1,rfl,o1',b1⟩;obtain⟨r1,r2,r3,rfl⟩:=o1'.shape;have gv:=Z (show Aw w1 wo.heap.size #[.slice y1 y2 y3] 32 from iE.o.keep ⟨b1.os,b1.tape,b1.output,b1.size,b1.block⟩);have lC:=Z (show Below wo.heap.size wo w1 from cN.o.trans (Below.mono ⟨b1.os,b1.tape,b1.output,b1.size,b1.block⟩ cN.o.size));have fe:=Z ((A3 (A3 A2)).mono (S':=Iv wo.heap.size w1.heap.size) (fun b hb=>⟨Nat.le_trans (cN.o.size) hb.1,hb.2⟩) o1');have fV:=lC.o.size;have eX:wl.heap.size≤w1.heap.size:=Nat.le_trans xR fV;have k9:=Z (Below.pureAlloc w1 (.cells #[.slice y1 y2 y3] 32));have vp:=Nat.le_trans eX k9.o.size;have ku:=Z ((A3 A2).same (A5 lC.o fun b hb=>by have:=(HT.o b hb).1.2;omega) eJ.o);have vk:=Z ((A3 (E:=32) (A3 (E:=3) A2)).same (A5 k9.o fun b hb=>hb.2) fe.o);have vn:=Z ((A3 A2).same (A5 k9.o fun b hb=>by have:=(HT.o b hb).1.2;omega) ku.o);have d0:=(lC.o.cell (p:=⟨w.heap.size,0,none⟩) jl.o.lt).trans c0;have d1:=(lC.o.cell (p:=⟨w.heap.size,1,none⟩) jl.o.lt).trans c1;have dx0:=(k9.o.cell (p:=⟨w.heap.size,0,none⟩) (Nat.lt_of_lt_of_le jl.o.lt fV)).trans d0;have dx1:=(k9.o.cell (p:=⟨w.heap.size,1,none⟩) (Nat.lt_of_lt_of_le jl.o.lt fV)).trans d1;clear o1' b1)
      |(go_simp;go_at_call 268;refine(IH.o _ _ _ _ (rows++[l]) S' (out++D4 R C f rows L k) _ (HA3.o _ ⟨B3.o.os,B3.o.tape,B3.o.output,B3.o.size,B3.o.block⟩) (js.o _ ⟨B3.o.os,B3.o.tape,B3.o.output,B3.o.size,B3.o.block⟩) (sL.o _ kI).1 (sL.o _ kI).2 (tE.o _ ⟨B3.o.os,B3.o.tape,B3.o.output,B3.o.size,B3.o.block⟩) uI.o Hbr3.o vj.o ml.o).mono ?_;rintro e w4 ⟨v4,S4,rfl,o4,h4,O4⟩;obtain⟨t1,t2,t3,rfl⟩:=o4.shape;have fc:=Z o4;have H4:=Z h4;have pg:=Z (show Ar S' w3 w4 from⟨O4.os,O4.tape,O4.output,O4.size,O4.block⟩);clear o4 h4 O4))
     all_goals go_wp2
     all_goals go_roundw
     all_goals first
      |(simp[intOf];omega)
      |exact⟨k+1,by omega,by go_num,S4,by rw[kN.o,←List.append_assoc];exact fc.o,fun b hb=>⟨(H4.o b hb).1.elim (fun h=>(HS'.o b h).1) (fun h=>.inr (by omega)),(H4.o b hb).2⟩,(Ho.o.trans' (Ar.of_pure B3.o _)).trans' (pg.o.mono fun b hb _=>(HS'.o b hb).1)⟩
    ·have aZ:=Z (show D4 R C f rows L k=Dk R C (f+1) rows from OB (by rw[HL.o,Hrs.o]) (by omega));have dW:decide ((k:Int)<(L.length:Int))=false:=by simp;omega
     go_wp2
     go_ret
     refine⟨_,S',rfl,by rw[←aZ.o];exact Hs.o,fun b hb=>⟨(HS'.o b hb).1.imp id (fun h=>by omega),(HS'.o b hb).2⟩,(Ar.of_pure nN.o S).trans' (Ho.o.mono fun b hb _=>.inl hb)⟩
theorem TF(a b:Value)(R C:List (List Int))(w:World)(h1:Ak w a R)(h2:Ak w b C):
  Calls Tryz.prog 199 #[.agg #[a,b]] w fun e w'=>∃v',e=.returned (.tuple #[v',.bool (Ba R C)])∧A4 31 (A4 32 (A4 3 A7)) (Iv w.heap.size w'.heap.size) w' v' (CH R C)∧Below w.heap.size w w':=by
 have H1:=Z h1;have H2:=Z h2;obtain⟨aa,ca,rfl,-⟩:=id h1;obtain⟨ab,cb,rfl,-⟩:=id h2;obtain⟨W1,hW1⟩:∃W1,W1=w.alloc (.cells #[.slice aa R.length ca,.slice ab C.length cb] 85):=⟨_,rfl⟩;have dg:Below w.heap.size w W1:=by rw[hW1];exact Below.pureAlloc _ _
 have jM:W1.heap.size=w.heap.size+1:=by rw[hW1];simp
 have kB:Aw W1 w.heap.size #[.slice aa R.length ca,.slice ab C.length cb] 85:=by rw[hW1];exact Aw.new _ _ _
 have c0:W1.cell? ⟨w.heap.size,0,none⟩=some (.slice aa R.length ca):=kB.cell 0;have c1:W1.cell? ⟨w.heap.size,1,none⟩=some (.slice ab C.length cb):=kB.cell 1;have G1:=Z (h1.keep dg);have G2:=Z (h2.keep dg);have cj:=Z dg;have iZ:=Z kB;have ey:=Z jM;clear h1 h2 dg jM kB;cases aD:Ba R C
 ·have Hr:=Z (Kn aD);have aS:=Z aD;clear aD;go_enter Tryz.func199,Tryz.ntmps199;subst hW1;go_wp2_with (fail);refine(L2 _ _ _ _ _ G1.o G2.o).mono ?_;rintro e w2 ⟨rfl,dc⟩;have b2:=cj.o.trans_pure (show Below _ _ w2 from by rw[dc];exact Below.pureAlloc _ _) (Nat.le_refl _);rw[aS.o];clear dc c0 c1;go_wp2
  go_ret2
  exact⟨_,rfl,by rw[Hr.o];exact A4.nil _ _ _ _,b2⟩
 obtain⟨hr1,hr5,hc1,hc5⟩:=FO aD;have Hr:=Z (JE aD);have aS:=Z aD;clear aD;go_enter Tryz.func199,Tryz.ntmps199;subst hW1;go_wp2_with (fail);refine(L2 _ _ _ _ _ G1.o G2.o).mono ?_;rintro e w2 ⟨rfl,dc⟩;have b2:Below (w.alloc (.cells #[.slice aa R.length ca,.slice ab C.length cb] 85)).heap.size (w.alloc (.cells #[.slice aa R.length ca,.slice ab C.length cb] 85)) w2:=by rw[dc];exact Below.pureAlloc _ _
 rw[aS.o];clear dc c0 c1;have fH:=Z (cj.o.trans_pure b2 (Nat.le_refl _));have fj:=Z (iZ.o.keep b2);have d0:w2.cell? ⟨w.heap.size,0,none⟩=some (.slice aa R.length ca):=fj.o.cell 0;have d1:w2.cell? ⟨w.heap.size,1,none⟩=some (.slice ab C.length cb):=fj.o.cell 1;have mL:w.heap.size≤w2.heap.size:=fH.o.size;have hp6:=VT hr5;have bU:=Z (A3t (n0:=w.heap.size) hr5 hc1 hc5 R.length (.slice aa R.length ca) (.slice ab C.length cb) (.slice none 0 0) (.slice none 0 0) [] (fun _=>False) [] w2
  ((BY (BY A2)).same (A5 fH.o fun _ h=>h) H1.o) ((BY (BY A2)).same (A5 fH.o fun _ h=>h) H2.o) mL (fun _ h=>h.elim) (A4.nil _ _ _ _)
  ⟨none,0,rfl,by simp,by simp,fun _=>rfl,fun h=>by simp at h⟩ (fun row hr=>by cases hr) (by simp) (by simp;omega))
 clear b2 hp6;go_wp2_with (fail);refine(bU.o).mono ?_;rintro e w3 ⟨v3,S3,rfl,o3,h3,O3⟩;obtain⟨t1,t2,t3,rfl⟩:=o3.shape;have cn:=Z o3;have kv:=Z h3;have uJ:=Z O3;clear o3 h3 O3 d0 d1;go_wp2
 go_ret2
 refine⟨_,rfl,?_,fH.o.trans_pure (uJ.o.below (Nat.le_refl _) fun _ h=>h.elim) (Nat.le_refl _)⟩;rw[Hr.o];have h:=cn.o;rw[List.nil_append] at h;exact(A3 (A3 (A3 A2))).mono (fun b hb=>⟨by have:=(kv.o b hb).1;simp at this;omega,(kv.o b hb).2⟩) h
theorem E9(m:List (List Int)):(Ag m).size≤1000:=by
 cases aD:Af m
 ·simp[Ag,aD]
 ·unfold Ag;rw[if_pos aD];have h5:=(Fi aD).bulk;have h6:(EG m).size≤Dt ⟨#[47]⟩ (m.map Bd):=DP _ _;omega
def CE(S:List (List (List Int))):ByteArray:=match S with
 |[]=>An 0++⟨#[32,115,111,108,117,116,105,111,110,115]⟩
 |x::l=>An ((x::l).length:Nat)++⟨#[32,115,111,108,117,116,105,111,110,115]⟩++⟨#[32]⟩++Ag x
def Bt(R C:List (List Int)):ByteArray:=
 if Ba R C then(if Cr R C then CE (CH R C)++⟨#[32,108,111,103,105,99,97,108]⟩ else CE (CH R C)) else ByteArray.empty
structure A6B(A F:ByteArray):Prop where
 a:A.size≤20
 f:F.size≤1000
 l1:(A++⟨#[32,115,111,108,117,116,105,111,110,115]⟩:ByteArray).size≤30
 l2:(⟨#[32]⟩++F:ByteArray).size≤1001
 l3:(A++⟨#[32,115,111,108,117,116,105,111,110,115]⟩++⟨#[32]⟩:ByteArray).size≤31
 l4:(A++⟨#[32,115,111,108,117,116,105,111,110,115]⟩++(⟨#[32]⟩++F):ByteArray).size≤1031
 l5:(A++⟨#[32,115,111,108,117,116,105,111,110,115]⟩++⟨#[32]⟩++F:ByteArray).size≤1031
theorem A59{A F:ByteArray}(a:A.size≤20)(f:F.size≤1000):A6B A F:=by
 have e1:(⟨#[32,115,111,108,117,116,105,111,110,115]⟩:ByteArray).size=10:=rfl;have e2:(⟨#[32]⟩:ByteArray).size=1:=rfl;refine⟨a,f,?_,?_,?_,?_,?_⟩<;>simp only[Au,e1,e2]<;>omega
theorem SP(a b c:ByteArray):a++b++c=a++(b++c):=by
 apply Dm;simp only[Cd,List.append_assoc]
theorem WF(a b:Value)(R C:List (List Int))(w:World)(h1:Ak w a R)(h2:Ak w b C)(fJ:∀r∈R,r.length≤1048576)(i7:∀r∈C,r.length≤1048576)(ht:Tab w):
  Calls Tryz.prog 55 #[.agg #[a,b]] w fun e w'=>e=.returned (.string (Bt R C))∧Below w.heap.size w w':=by
 have ej:=Z fJ;have mF:=Z i7;have H1:=Z h1;have H2:=Z h2;have HT:=Z ht;obtain⟨aa,ca,rfl,-⟩:=h1;obtain⟨ab,cb,rfl,-⟩:=h2;clear fJ i7 ht;have Hk:=Z (Aw.new w #[.slice aa R.length ca,.slice ab C.length cb] 85);have er:=Z (Below.pureAlloc w (.cells #[.slice aa R.length ca,.slice ab C.length cb] 85));go_enter Tryz.func55,Tryz.ntmps55;go_wp2_with (fail);refine(Tn _ _ R C _ (H1.o.keep er.o) (H2.o.keep er.o) ej.o mF.o).mono ?_;rintro e w1 ⟨v1,rfl,o1,b1⟩;have dp:=Z (er.o.trans_pure b1 (Nat.le_refl _));have gv:=Z (Hk.o.keep b1);cases aD:Ba R C
 ·have Hr:=Z (show ByteArray.empty=Bt R C from by unfold Bt;rw[if_neg (by rw[aD];simp)]);obtain⟨p1,p2,p3,rfl⟩:=o1.shape;clear o1 aD;go_wp2
  go_ret
  exact⟨Fl Hr.o,dp.o⟩
 have gp:∀z,Cr R C=z→Bt R C=(if z then CE (CH R C)++⟨#[32,108,111,103,105,99,97,108]⟩ else CE (CH R C)):=fun z hz=>by unfold Bt;rw[if_pos aD,hz]
 obtain⟨z,hz⟩:∃z,Cr R C=z:=⟨_,rfl⟩;have Hr:=Z (gp z hz);have Hz:=Z hz;have k0:w1.cell? ⟨w.heap.size,0,none⟩=some (.slice aa R.length ca):=gv.o.cell 0;have k1:w1.cell? ⟨w.heap.size,1,none⟩=some (.slice ab C.length cb):=gv.o.cell 1;obtain⟨S,hS⟩:∃S,S=CH R C:=⟨_,rfl⟩;rw[←hS] at o1 Hr;clear gp hz aD hS;cases S with
 |nil=>
  obtain⟨q1,q2,q3,rfl⟩:=o1.shape;have hq:=o1.grids.len;rw[List.length_nil] at hq;subst hq;obtain⟨za,zf,z1,z2,z3,z4,z5⟩:=A59 (A:=An 0) (F:=ByteArray.empty) (Cb (by omega)) (by decide);have Hh:=Z (show CE []=An 0++⟨#[32,115,111,108,117,116,105,111,110,115]⟩ from rfl);clear o1 k0 k1;go_wp2_with (fail);refine(Cs _ (BV.small (by omega) (by omega)) _ (HT.o.keep dp.o)).mono ?_;rintro e w2 ⟨rfl,b2⟩;have bj:=Z (dp.o.trans_pure b2 (Nat.le_refl _));have dT:=Z (gv.o.keep b2);have k0:w2.cell? ⟨w.heap.size,0,none⟩=some (.slice aa R.length ca):=dT.o.cell 0;have k1:w2.cell? ⟨w.heap.size,1,none⟩=some (.slice ab C.length cb):=dT.o.cell 1;go_wp2_with (fail);refine(PI _ _ R C _ (H1.o.keep bj.o) (H2.o.keep bj.o) ej.o mF.o).mono ?_;rintro e w3 ⟨rfl,b3⟩;rw[Hz.o];have bM:=Z (bj.o.trans_pure b3 (Nat.le_refl _));clear k0 k1;cases z
  ·go_wp2
   go_ret
   exact⟨Fl (by rw[Hr.o,Hh.o];rfl),bM.o⟩
  ·go_wp2
   go_ret
   exact⟨Fl (by rw[Hr.o,Hh.o];rfl),bM.o⟩
 |cons x l=>
  obtain⟨g,gc,rfl,-,-,gy,cz⟩:=o1.inv_ne (by simp);have Hg:=Z o1.grids;obtain⟨u,aQ,hu⟩:=Sl.at o1.grids (k:=0) (x:=x) rfl;have Hu:=Z (show Ak w1 u x from hu);obtain⟨ua,uc,rfl,-⟩:=hu;rw[Nat.add_zero] at aQ;have Hck:=Z aQ;obtain⟨n,hn⟩:∃n,n=(x::l).length:=⟨_,rfl⟩;have Hn:=Z hn;have dY:0<n:=by rw[hn];simp
  rw[←hn] at cz⊢;obtain⟨A,hA⟩:∃A,A=An (n:Int):=⟨_,rfl⟩;obtain⟨F,hF⟩:∃F,F=Ag x:=⟨_,rfl⟩;obtain⟨za,zf,z1,z2,z3,z4,z5⟩:=A59 (A:=A) (F:=F) (by rw[hA];exact Cb (by omega)) (by rw[hF];exact E9 x);have HA:=Z hA;have HF:=Z hF;have Hh:=Z (show CE (x::l)=A++⟨#[32,115,111,108,117,116,105,111,110,115]⟩++⟨#[32]⟩++F from by rw[hA,hF,hn];rfl);have Key:=Z (show A++⟨#[32,115,111,108,117,116,105,111,110,115]⟩++(⟨#[32]⟩++F)=CE (x::l) from by rw[Hh.o,SP (A++_)]);clear o1 hn hA hF k0 k1 aQ;go_wp2_with (fail);refine(Cs _ (BV.small (by omega) (by omega)) _ (HT.o.keep dp.o)).mono ?_;rintro e w2 ⟨rfl,b2⟩;rw[←HA.o];have bj:=Z (dp.o.trans_pure b2 (Nat.le_refl _));have dT:=Z (gv.o.keep b2);have aQ:=(b2.cell (p:=⟨g,0,none⟩) gy).trans Hck.o;go_wp2_with (fail);refine(Fh _ x _ (Hu.o.keep b2)).mono ?_;rintro e w3 ⟨rfl,b3⟩;rw[←HF.o];have bM:=Z (bj.o.trans_pure b3 (Nat.le_refl _));have gQ:=Z (dT.o.keep b3);have k0:w3.cell? ⟨w.heap.size,0,none⟩=some (.slice aa R.length ca):=gQ.o.cell 0;have k1:w3.cell? ⟨w.heap.size,1,none⟩=some (.slice ab C.length cb):=gQ.o.cell 1;clear aQ;go_wp2_with (fail);refine(PI _ _ R C _ (H1.o.keep bM.o) (H2.o.keep bM.o) ej.o mF.o).mono ?_;rintro e w4 ⟨rfl,b4⟩;rw[Hz.o];have eV:=Z (bM.o.trans_pure b4 (Nat.le_refl _));clear k0 k1;cases z
  ·go_wp2
   go_ret
   exact⟨Fl (by rw[Hr.o];rw[Key.o];rfl),eV.o⟩
  ·go_wp2
   go_ret
   exact⟨Fl (by rw[Hr.o];rw[Key.o];rfl),eV.o⟩
theorem Vs(a b:Value)(R C:List (List Int))(w:World)(h1:Ak w a R)(h2:Ak w b C)(fJ:∀r∈R,r.length≤1048576)(i7:∀r∈C,r.length≤1048576)(ht:Tab w):
  Calls Tryz.prog 137 #[.agg #[a,b]] w fun e w'=>e=.returned (.string (Bt R C))∧Below w.heap.size w w':=by
 have ej:=Z fJ;have mF:=Z i7;have H1:=Z h1;have H2:=Z h2;have HT:=Z ht;obtain⟨aa,ca,rfl,-⟩:=h1;obtain⟨ab,cb,rfl,-⟩:=h2;clear fJ i7 ht;have Hk:=Z (Aw.new w #[.slice aa R.length ca,.slice ab C.length cb] 85);have er:=Z (Below.pureAlloc w (.cells #[.slice aa R.length ca,.slice ab C.length cb] 85));go_enter Tryz.func137,Tryz.ntmps137;go_wp2_with (fail);refine(TF _ _ R C _ (H1.o.keep er.o) (H2.o.keep er.o)).mono ?_;rintro e w1 ⟨v1,rfl,o1,b1⟩;have dp:=Z (er.o.trans_pure b1 (Nat.le_refl _));have gv:=Z (Hk.o.keep b1);cases aD:Ba R C
 ·have Hr:=Z (show ByteArray.empty=Bt R C from by unfold Bt;rw[if_neg (by rw[aD];simp)]);obtain⟨p1,p2,p3,rfl⟩:=o1.shape;clear o1 aD;go_wp2
  go_ret
  exact⟨Fl Hr.o,dp.o⟩
 have gp:∀z,Cr R C=z→Bt R C=(if z then CE (CH R C)++⟨#[32,108,111,103,105,99,97,108]⟩ else CE (CH R C)):=fun z hz=>by unfold Bt;rw[if_pos aD,hz]
 obtain⟨z,hz⟩:∃z,Cr R C=z:=⟨_,rfl⟩;have Hr:=Z (gp z hz);have Hz:=Z hz;have k0:w1.cell? ⟨w.heap.size,0,none⟩=some (.slice aa R.length ca):=gv.o.cell 0;have k1:w1.cell? ⟨w.heap.size,1,none⟩=some (.slice ab C.length cb):=gv.o.cell 1;obtain⟨S,hS⟩:∃S,S=CH R C:=⟨_,rfl⟩;rw[←hS] at o1 Hr;clear gp hz aD hS;cases S with
 |nil=>
  obtain⟨q1,q2,q3,rfl⟩:=o1.shape;have hq:=o1.grids.len;rw[List.length_nil] at hq;subst hq;obtain⟨za,zf,z1,z2,z3,z4,z5⟩:=A59 (A:=An 0) (F:=ByteArray.empty) (Cb (by omega)) (by decide);have Hh:=Z (show CE []=An 0++⟨#[32,115,111,108,117,116,105,111,110,115]⟩ from rfl);clear o1 k0 k1;go_wp2_with (fail);refine(Dr _ (BV.small (by omega) (by omega)) _).mono ?_;rintro e w2 ⟨rfl,b2⟩;have bj:=Z (dp.o.trans_pure b2 (Nat.le_refl _));have dT:=Z (gv.o.keep b2);have k0:w2.cell? ⟨w.heap.size,0,none⟩=some (.slice aa R.length ca):=dT.o.cell 0;have k1:w2.cell? ⟨w.heap.size,1,none⟩=some (.slice ab C.length cb):=dT.o.cell 1;go_wp2_with (fail);refine(PN _ _ R C _ (H1.o.keep bj.o) (H2.o.keep bj.o)).mono ?_;rintro e w3 ⟨rfl,b3⟩;rw[Hz.o];have bM:=Z (bj.o.trans_pure b3 (Nat.le_refl _));clear k0 k1;cases z
  ·go_wp2
   go_ret
   exact⟨Fl (by rw[Hr.o,Hh.o];rfl),bM.o⟩
  ·go_wp2
   go_ret
   exact⟨Fl (by rw[Hr.o,Hh.o];rfl),bM.o⟩
 |cons x l=>
  obtain⟨g,gc,rfl,-,-,gy,cz⟩:=o1.inv_ne (by simp);have Hg:=Z o1.grids;obtain⟨u,aQ,hu⟩:=Sl.at o1.grids (k:=0) (x:=x) rfl;have Hu:=Z (show Ak w1 u x from hu);obtain⟨ua,uc,rfl,-⟩:=hu;rw[Nat.add_zero] at aQ;have Hck:=Z aQ;obtain⟨n,hn⟩:∃n,n=(x::l).length:=⟨_,rfl⟩;have Hn:=Z hn;have dY:0<n:=by rw[hn];simp
  rw[←hn] at cz⊢;obtain⟨A,hA⟩:∃A,A=An (n:Int):=⟨_,rfl⟩;obtain⟨F,hF⟩:∃F,F=Ag x:=⟨_,rfl⟩;obtain⟨za,zf,z1,z2,z3,z4,z5⟩:=A59 (A:=A) (F:=F) (by rw[hA];exact Cb (by omega)) (by rw[hF];exact E9 x);have HA:=Z hA;have HF:=Z hF;have Hh:=Z (show CE (x::l)=A++⟨#[32,115,111,108,117,116,105,111,110,115]⟩++⟨#[32]⟩++F from by rw[hA,hF,hn];rfl);have Key:=Z (show A++⟨#[32,115,111,108,117,116,105,111,110,115]⟩++(⟨#[32]⟩++F)=CE (x::l) from by rw[Hh.o,SP (A++_)]);clear o1 hn hA hF k0 k1 aQ;go_wp2_with (fail);refine(Dr _ (BV.small (by omega) (by omega)) _).mono ?_;rintro e w2 ⟨rfl,b2⟩;rw[←HA.o];have bj:=Z (dp.o.trans_pure b2 (Nat.le_refl _));have dT:=Z (gv.o.keep b2);have aQ:=(b2.cell (p:=⟨g,0,none⟩) gy).trans Hck.o;go_wp2_with (fail);refine(Ex _ x _ (Hu.o.keep b2)).mono ?_;rintro e w3 ⟨rfl,b3⟩;rw[←HF.o];have bM:=Z (bj.o.trans_pure b3 (Nat.le_refl _));have gQ:=Z (dT.o.keep b3);have k0:w3.cell? ⟨w.heap.size,0,none⟩=some (.slice aa R.length ca):=gQ.o.cell 0;have k1:w3.cell? ⟨w.heap.size,1,none⟩=some (.slice ab C.length cb):=gQ.o.cell 1;clear aQ;go_wp2_with (fail);refine(PN _ _ R C _ (H1.o.keep bM.o) (H2.o.keep bM.o)).mono ?_;rintro e w4 ⟨rfl,b4⟩;rw[Hz.o];have eV:=Z (bM.o.trans_pure b4 (Nat.le_refl _));clear k0 k1;cases z
  ·go_wp2
   go_ret
   exact⟨Fl (by rw[Hr.o];rw[Hh.o];rfl),eV.o⟩
  ·go_wp2
   go_ret
   exact⟨Fl (by rw[Hr.o];rw[Hh.o];rfl),eV.o⟩

/- Base. -/
import Derived.Lib.SmallJoins
import Derived.Test.YthmocomfjgmjoaaGreatDoorQ02
set_option maxRecDepth 100000
namespace Go.Proofs.YthmocomfjgmjoaaGreatDoor
open Go.ChangeShapes Go.WideShapes Go.ChangeAt Go.RowKit
theorem A5V{H:Type}{enc:TypeId×Value→H}{P:Program}{W:World}{base:Nat}{t e:TypeId}{v:Value}{d:DataW H}{ps:List MemPlace}
  (hu:P.underlying t=some (.slice e))(he:P.underlying e=some (.int .i64))(hc:P.cellsOf e=1)
  (hv:Value.okWide P W .any base t v)(h:DataW.Trod enc P W 0 (fun _=>true) true t v d ps):∃xs,Ab W v xs:=by
 obtain⟨a0,len0,cap0,rfl⟩:=okWide_slice hu hv;obtain⟨rU,hf⟩:=h;rcases open_ints hu he hc hf with⟨eK,_⟩|⟨x,l,c,zs,eK,_,hl,hm,hz,_,aM,hwz⟩
 ·simp[Value.cells] at eK;obtain⟨rfl,rfl,rfl⟩:=eK;exact⟨[],none,0,rfl,by simp,by simp,fun _=>rfl,fun h=>by simp at h⟩
 ·simp[Value.cells] at eK;obtain⟨rfl,rfl,rfl⟩:=eK;have jy:zs.length=cap0:=by simpa using hz
  have aP:(zs.take len0).length=len0:=by simp;omega
  have hm':cap0≤9223372036854775807:=by simpa[maxLen] using hm
  refine⟨zs.take len0,some x,cap0,by rw[aP],by rw[aP];exact hl,by rw[aP];omega,fun h=>by simp at h,fun h0=>?_⟩;rw[aP] at h0;obtain⟨b,off,spot⟩:=x;have cF:=aM 0 (by omega);have j7:spot=none:=by simpa[Addr.add] using World.cell?_spot cF
  subst j7;refine⟨b,off,rfl,?_,fun k y hk=>?_⟩
  ·have:=block_lt_of_cell cF;simpa[Addr.add] using this
  ·have ah:=(List.getElem?_eq_some_iff.1 hk).1;rw[aP] at ah;rw[List.getElem?_take,if_pos ah] at hk;have aQ:=aM k (by omega);rw[Addr.add_lit] at aQ;have hg:zs.getD k 0=y:=by simp[List.getD,hk]
   rw[hg] at aQ;refine⟨_,aQ,rfl,?_⟩;have hw:=hwz y (List.mem_of_getElem? hk);have:=hw;simp[Lit.wf,IntKind.min,IntKind.max,IntKind.signed,IntKind.bits] at this;exact this
end Go.Proofs.YthmocomfjgmjoaaGreatDoor
namespace Go.Proofs.YthmocomfjgmjoaaGreatDoor
open Go.ChangeShapes Go.WideShapes Go.ChangeAt Go.RowKit Go.Deep
theorem A4H{α:Type}{P:Nat→α→Prop}:∀(n:Nat),(∀i,i<n→∃x,P i x)→∃xs:List α,xs.length=n∧∀k x,xs[k]? =some x→P k x:=by
 intro n;induction n with
 |zero=>intro _;exact⟨[],rfl,fun k x h=>by simp at h⟩
 |succ n ih=>
  intro h;obtain⟨xs,hl,hx⟩:=ih (fun i hi=>h i (by omega));obtain⟨y,hy⟩:=h n (by omega);refine⟨xs++[y],by simp[hl],fun k x hk=>?_⟩;rw[List.getElem?_append] at hk
  split at hk
  ·exact hx k x hk
  ·rename_i hge
   have p7:=(List.getElem?_eq_some_iff.1 hk).1;simp at p7;obtain rfl:k=n:=by omega
   rw[hl,Nat.sub_self] at hk;simp at hk;rw[←hk];exact hy
section
variable {H : Type} {enc : TypeId × Value → H} {P : Program} {W : World}
theorem V8{α:Type}{R:CG α}{t e:TypeId}(hu:P.underlying t=some (.slice e))(hc:P.cellsOf e=1)
  (elem:∀n v y,DataW.trod enc P W 0 (fun _=>true) true n e [v]=some y→∃x,Rd R W v x){n:Nat}{v:Value}{y:DataW H×List MemPlace}(h:DataW.trod enc P W 0 (fun _=>true) true n t [v]=some y):∃xs,Rd (Sl R) W v xs:=by
 rcases open_slice1 hu hc h with⟨eK,_⟩|⟨a,len,cap,m,n',V,D,Pl,eK,_,hl,hm,rV,_,hx⟩
 ·simp at eK;subst eK;exact⟨[],none,0,rfl,by simp,by simp,fun _=>rfl,fun h=>by simp at h⟩
 ·simp at eK;subst eK;simp only[if_true] at rV;subst rV;obtain⟨xs,lq,dz⟩:=A4H (P:=fun i x=>W.cell? (a.add i)=some (V i)∧Rd R W (V i) x) len (fun i hi=>by
   obtain⟨h1,h2⟩:=hx i (by omega);obtain⟨x,hx'⟩:=elem _ _ _ h2;exact⟨x,h1,hx'⟩)
  refine⟨xs,some a,m,by rw[lq],by rw[lq];exact hl,by rw[lq];simp[maxLen] at hm;omega,fun h=>by simp at h,fun h0=>?_⟩;rw[lq] at h0;obtain⟨b,off,spot⟩:=a;have cF:=(hx 0 (by omega)).1;have j7:spot=none:=by simpa[Addr.add] using World.cell?_spot cF
  subst j7;refine⟨b,off,rfl,?_,fun k x hk=>?_⟩
  ·have:=block_lt_of_cell cF;simpa[Addr.add] using this
  ·obtain⟨h1,h2⟩:=dz k x hk;rw[Addr.add_lit] at h1;exact⟨_,h1,h2⟩
theorem A1U{e:TypeId}(he:P.underlying e=some (.int .i64)){n:Nat}{v:Value}{y:DataW H×List MemPlace}(h:DataW.trod enc P W 0 (fun _=>true) true n e [v]=some y):∃x,Rd A7 W v x:=by
 obtain⟨z,hv,_,hw⟩:=DataW.trod_int he h;simp at hv;subst hv;exact⟨z,rfl,bounds_i64 hw⟩
theorem P2{t e:TypeId}(hu:P.underlying t=some (.slice e))(he:P.underlying e=some (.int .i64))(hc:P.cellsOf e=1){n:Nat}{v:Value}{y:DataW H×List MemPlace}(h:DataW.trod enc P W 0 (fun _=>true) true n t [v]=some y):∃x,Ab W v x:=
 V8 hu hc (fun _ _ _=>A1U he) h
theorem Py{t t1 e:TypeId}(hu:P.underlying t=some (.slice t1))(lV:P.underlying t1=some (.slice e))(he:P.underlying e=some (.int .i64))(hc1:P.cellsOf t1=1)(hc:P.cellsOf e=1){n:Nat}{v:Value}{y:DataW H×List MemPlace}(h:DataW.trod enc P W 0 (fun _=>true) true n t [v]=some y):∃x,Ak W v x:=
 V8 hu hc1 (fun _ _ _=>P2 lV he hc) h
theorem A5W{base:Nat}{t t1 e:TypeId}{v:Value}{d:DataW H}{ps:List MemPlace}(hu:P.underlying t=some (.slice t1))(lV:P.underlying t1=some (.slice e))(he:P.underlying e=some (.int .i64))(hc1:P.cellsOf t1=1)(hc:P.cellsOf e=1)
  (hv:Value.okWide P W .any base t v)(h:DataW.Trod enc P W 0 (fun _=>true) true t v d ps):∃xs,Ak W v xs:=by
 obtain⟨a0,len0,cap0,rfl⟩:=okWide_slice hu hv;obtain⟨rU,hf⟩:=h;exact Py hu lV he hc1 hc (by simpa[Value.cells] using hf)
theorem A5t{base:Nat}{t t2 t1 e:TypeId}{v:Value}{d:DataW H}{ps:List MemPlace}(hu:P.underlying t=some (.slice t2))(ec:P.underlying t2=some (.slice t1))(lV:P.underlying t1=some (.slice e))(he:P.underlying e=some (.int .i64))(cH:P.cellsOf t2=1)(hc1:P.cellsOf t1=1)(hc:P.cellsOf e=1)
  (hv:Value.okWide P W .any base t v)(h:DataW.Trod enc P W 0 (fun _=>true) true t v d ps):∃xs,Gm W v xs:=by
 obtain⟨a0,len0,cap0,rfl⟩:=okWide_slice hu hv;obtain⟨rU,hf⟩:=h;exact V8 hu cH (fun _ _ _=>Py ec lV he hc1 hc) (by simpa[Value.cells] using hf)
end
end Go.Proofs.YthmocomfjgmjoaaGreatDoor
namespace Go.Proofs.YthmocomfjgmjoaaGreatDoor
open Go.ChangeShapes Go.WideShapes Go.ChangeAt Go.RowKit Go.Deep Go.Joins
section
variable {H : Type} {enc : TypeId × Value → H} {W : World} {base : Nat} {v : Value} {d : DataW H} {ps : List MemPlace}
theorem A56(hv:Value.okWide Tryz.prog W .any base 40 v)(h:DataW.Trod enc Tryz.prog W 0 (fun _=>true) true 40 v d ps):∃p:List (List Int)×List Int×List Int,∃a b c,v=.agg #[a,b,c]∧Ak W a p.1∧Ab W b p.2.1∧Ab W c p.2.2:=by
 obtain⟨a,b,c,y0,y1,y2,n,rfl,-,-,h0,h1,h2⟩:=open_agg3 Tryz.underlying40 (by kernel_rfl) (by kernel_rfl) hv h;obtain⟨x,hx⟩:=Py Tryz.underlying31 Tryz.underlying32 Tryz.underlying3 (by kernel_rfl) (by kernel_rfl) h0;obtain⟨y,hy⟩:=P2 Tryz.underlying32 Tryz.underlying3 (by kernel_rfl) h1;obtain⟨z,hz⟩:=P2 Tryz.underlying32 Tryz.underlying3 (by kernel_rfl) h2;exact⟨(x,y,z),a,b,c,rfl,hx,hy,hz⟩
end
end Go.Proofs.YthmocomfjgmjoaaGreatDoor
namespace Go.Proofs.YthmocomfjgmjoaaGreatDoor
open Go.ChangeShapes Go.WideShapes Go.ChangeAt Go.RowKit
theorem SA{H:Type}{enc:TypeId×Value→H}{P:Program}{W:World}{base:Nat}{t e:TypeId}{v:Value}{d:DataW H}{ps:List MemPlace}
  (hu:P.underlying t=some (.slice e))(he:P.underlying e=some (.int .u8))(hc:P.cellsOf e=1)
  (hv:Value.okWide P W .any base t v)(h:DataW.Trod enc P W 0 (fun _=>true) true t v d ps):∃xs,Qa W v xs:=by
 obtain⟨a0,len0,cap0,rfl⟩:=okWide_slice hu hv;obtain⟨rU,hf⟩:=h;rcases open_ints hu he hc hf with⟨eK,_⟩|⟨x,l,c,zs,eK,_,hl,hm,hz,_,aM,hwz⟩
 ·simp[Value.cells] at eK;obtain⟨rfl,rfl,rfl⟩:=eK;exact⟨[],none,0,rfl,by simp,by simp,fun _=>rfl,fun h=>by simp at h⟩
 ·simp[Value.cells] at eK;obtain⟨rfl,rfl,rfl⟩:=eK;have jy:zs.length=cap0:=by simpa using hz
  have aP:(zs.take len0).length=len0:=by simp;omega
  have hm':cap0≤9223372036854775807:=by simpa[maxLen] using hm
  refine⟨zs.take len0,some x,cap0,by rw[aP],by rw[aP];exact hl,by rw[aP];omega,fun h=>by simp at h,fun h0=>?_⟩;rw[aP] at h0;obtain⟨b,off,spot⟩:=x;have cF:=aM 0 (by omega);have j7:spot=none:=by simpa[Addr.add] using World.cell?_spot cF
  subst j7;refine⟨b,off,rfl,?_,fun k y hk=>?_⟩
  ·have:=block_lt_of_cell cF;simpa[Addr.add] using this
  ·have ah:=(List.getElem?_eq_some_iff.1 hk).1;rw[aP] at ah;rw[List.getElem?_take,if_pos ah] at hk;have aQ:=aM k (by omega);rw[Addr.add_lit] at aQ;have hg:zs.getD k 0=y:=by simp[List.getD,hk]
   rw[hg] at aQ;refine⟨_,aQ,rfl,?_⟩;have hw:=hwz y (List.mem_of_getElem? hk);have:=hw;simp[Lit.wf,IntKind.min,IntKind.max,IntKind.signed,IntKind.bits] at this;exact this

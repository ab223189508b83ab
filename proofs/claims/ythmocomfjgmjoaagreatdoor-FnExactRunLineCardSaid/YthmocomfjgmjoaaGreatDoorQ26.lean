/- Base. -/
import Derived.Lib.SmallJoins
import Derived.Test.YthmocomfjgmjoaaGreatDoorQ02
set_option maxRecDepth 100000
namespace Go.Proofs.YthmocomfjgmjoaaGreatDoor
open Go.ChangeShapes Go.WideShapes Go.ChangeAt Go.RowKit
theorem A4t{H:Type}{enc:TypeId×Value→H}{P:Program}{W:World}{base:Nat}{t e:TypeId}{v:Value}{d:DataW H}{ps:List MemPlace}
  (hu:P.underlying t=some (.slice e))(he:P.underlying e=some (.int .i64))(hc:P.cellsOf e=1)
  (hv:Value.okWide P W .any base t v)(h:DataW.Trod enc P W 0 (fun _=>true) true t v d ps):∃xs,Au W v xs:=by
 obtain⟨a0,len0,cap0,rfl⟩:=okWide_slice hu hv;obtain⟨rO,hf⟩:=h;rcases open_ints hu he hc hf with⟨dp,_⟩|⟨x,l,c,zs,dp,_,hl,hm,hz,_,aH,hwz⟩
 ·simp[Value.cells]at dp;obtain⟨rfl,rfl,rfl⟩:=dp;exact⟨[],none,0,rfl,Jj,Jj,fun _=>rfl,fun h=>by simp at h⟩
 ·simp[Value.cells]at dp;obtain⟨rfl,rfl,rfl⟩:=dp;have jm:zs.length=cap0:=by simpa using hz
  have aN:(zs.take len0).length=len0:=by simp;omega
  have hm':cap0≤9223372036854775807:=by simpa[maxLen]using hm
  refine⟨zs.take len0,some x,cap0,by rw[aN],by rw[aN];exact hl,by rw[aN];omega,fun h=>by simp at h,fun h0=>?_⟩;rw[aN]at h0;obtain⟨b,off,spot⟩:=x;have bZ:=aH 0 J;have jO:spot=none:=by simpa[Addr.add]using World.cell?_spot bZ
  subst jO;refine⟨b,off,rfl,?_,fun k y hk=>?_⟩
  ·have:=block_lt_of_cell bZ;simpa[Addr.add]using this
  ·have au:=(A5.1 hk).1;rw[aN]at au;rw[List.getElem?_take,if_pos au]at hk;have aW:=aH k J;rw[Addr.add_lit]at aW;have hg:zs.getD k 0=y:=by simp[List.getD,hk]
   rw[hg]at aW;refine⟨_,aW,rfl,?_⟩;have hw:=hwz y (A4 hk);have:=hw;simp[Lit.wf,IntKind.min,IntKind.max,IntKind.signed,IntKind.bits]at this;exact this
end Go.Proofs.YthmocomfjgmjoaaGreatDoor
namespace Go.Proofs.YthmocomfjgmjoaaGreatDoor
open Go.ChangeShapes Go.WideShapes Go.ChangeAt Go.RowKit Go.Deep
theorem A3t{α:Type}{P:Nat→α→Prop}:∀(n:Nat),(∀i,i<n→∃x,P i x)→∃xs:List α,xs.length=n∧∀k x,xs[k]? =some x→P k x:=by
 intro n;induction n with
 |zero=>intro _;exact⟨[],rfl,fun k x h=>by simp at h⟩
 |succ n ih=>
  intro h;obtain⟨xs,hl,hx⟩:=ih (fun i hi=>h i J);obtain⟨y,hy⟩:=h n J;refine⟨xs++[y],by simp[hl],fun k x hk=>?_⟩;rw[List.getElem?_append]at hk
  split at hk
  ·exact hx k x hk
  ·rename_i hge
   have pP:=(A5.1 hk).1;simp at pP;obtain rfl:k=n:=J;rw[hl,Nat.sub_self]at hk;simp at hk;rw[←hk];exact hy
section
variable {H : Type} {enc : TypeId × Value → H} {P : Program} {W : World}
theorem VH{α:Type}{R:CP α}{t e:TypeId}(hu:P.underlying t=some (.slice e))(hc:P.cellsOf e=1)
  (elem:∀n v y,DataW.trod enc P W 0 (fun _=>true) true n e [v]=some y→∃x,Rd R W v x){n:Nat}{v:Value}{y:DataW H×List MemPlace}(h:DataW.trod enc P W 0 (fun _=>true) true n t [v]=some y):∃xs,Rd (Sl R) W v xs:=by
 rcases open_slice1 hu hc h with⟨dp,_⟩|⟨a,len,cap,m,n',V,D,Pl,dp,_,hl,hm,rP,_,hx⟩
 ·simp at dp;subst dp;exact⟨[],none,0,rfl,Jj,Jj,fun _=>rfl,fun h=>by simp at h⟩
 ·simp at dp;subst dp;simp only[if_true]at rP;subst rP;obtain⟨xs,l9,eX⟩:=A3t (P:=fun i x=>W.cell? (a.add i)=some (V i)∧Rd R W (V i) x) len (fun i hi=>by
   obtain⟨h1,h2⟩:=hx i J;obtain⟨x,hx'⟩:=elem _ _ _ h2;exact⟨x,h1,hx'⟩)
  refine⟨xs,some a,m,by rw[l9],by rw[l9];exact hl,by rw[l9];simp[maxLen]at hm;omega,fun h=>by simp at h,fun h0=>?_⟩;rw[l9]at h0;obtain⟨b,off,spot⟩:=a;have bZ:=(hx 0 J).1;have jO:spot=none:=by simpa[Addr.add]using World.cell?_spot bZ
  subst jO;refine⟨b,off,rfl,?_,fun k x hk=>?_⟩
  ·have:=block_lt_of_cell bZ;simpa[Addr.add]using this
  ·obtain⟨h1,h2⟩:=eX k x hk;rw[Addr.add_lit]at h1;exact⟨_,h1,h2⟩
theorem A1Q{e:TypeId}(he:P.underlying e=some (.int .i64)){n:Nat}{v:Value}{y:DataW H×List MemPlace}(h:DataW.trod enc P W 0 (fun _=>true) true n e [v]=some y):∃x,Rd Ap W v x:=by
 obtain⟨z,hv,_,hw⟩:=DataW.trod_int he h;simp at hv;subst hv;exact⟨z,rfl,bounds_i64 hw⟩
theorem PV{t e:TypeId}(hu:P.underlying t=some (.slice e))(he:P.underlying e=some (.int .i64))(hc:P.cellsOf e=1){n:Nat}{v:Value}{y:DataW H×List MemPlace}(h:DataW.trod enc P W 0 (fun _=>true) true n t [v]=some y):∃x,Au W v x:=
 VH hu hc (fun _ _ _=>A1Q he) h
theorem PY{t t1 e:TypeId}(hu:P.underlying t=some (.slice t1))(lH:P.underlying t1=some (.slice e))(he:P.underlying e=some (.int .i64))(hc1:P.cellsOf t1=1)(hc:P.cellsOf e=1){n:Nat}{v:Value}{y:DataW H×List MemPlace}(h:DataW.trod enc P W 0 (fun _=>true) true n t [v]=some y):∃x,AI W v x:=
 VH hu hc1 (fun _ _ _=>PV lH he hc) h
theorem A4x{base:Nat}{t t1 e:TypeId}{v:Value}{d:DataW H}{ps:List MemPlace}(hu:P.underlying t=some (.slice t1))(lH:P.underlying t1=some (.slice e))(he:P.underlying e=some (.int .i64))(hc1:P.cellsOf t1=1)(hc:P.cellsOf e=1)
  (hv:Value.okWide P W .any base t v)(h:DataW.Trod enc P W 0 (fun _=>true) true t v d ps):∃xs,AI W v xs:=by
 obtain⟨a0,len0,cap0,rfl⟩:=okWide_slice hu hv;obtain⟨rO,hf⟩:=h;exact PY hu lH he hc1 hc (by simpa[Value.cells]using hf)
theorem A45{base:Nat}{t t2 t1 e:TypeId}{v:Value}{d:DataW H}{ps:List MemPlace}(hu:P.underlying t=some (.slice t2))(eO:P.underlying t2=some (.slice t1))(lH:P.underlying t1=some (.slice e))(he:P.underlying e=some (.int .i64))(cM:P.cellsOf t2=1)(hc1:P.cellsOf t1=1)(hc:P.cellsOf e=1)
  (hv:Value.okWide P W .any base t v)(h:DataW.Trod enc P W 0 (fun _=>true) true t v d ps):∃xs,Gv W v xs:=by
 obtain⟨a0,len0,cap0,rfl⟩:=okWide_slice hu hv;obtain⟨rO,hf⟩:=h;exact VH hu cM (fun _ _ _=>PY eO lH he hc1 hc) (by simpa[Value.cells]using hf)
end
end Go.Proofs.YthmocomfjgmjoaaGreatDoor
namespace Go.Proofs.YthmocomfjgmjoaaGreatDoor
open Go.ChangeShapes Go.WideShapes Go.ChangeAt Go.RowKit Go.Deep Go.Joins
section
variable {H : Type} {enc : TypeId × Value → H} {W : World} {base : Nat} {v : Value} {d : DataW H} {ps : List MemPlace}
theorem Ve(hv:Value.okWide Tryz.prog W .any base 40 v)(h:DataW.Trod enc Tryz.prog W 0 (fun _=>true) true 40 v d ps):∃p:I×U×U,∃a b c,v=.agg #[a,b,c]∧AI W a p.1∧Au W b p.2.1∧Au W c p.2.2:=by
 obtain⟨a,b,c,y0,y1,y2,n,rfl,-,-,h0,h1,h2⟩:=open_agg3 Tryz.underlying40 (by kernel_rfl) (by kernel_rfl) hv h;obtain⟨x,hx⟩:=PY Tryz.underlying31 Tryz.underlying32 Tryz.underlying3 (by kernel_rfl) (by kernel_rfl) h0;obtain⟨y,hy⟩:=PV Tryz.underlying32 Tryz.underlying3 (by kernel_rfl) h1;obtain⟨z,hz⟩:=PV Tryz.underlying32 Tryz.underlying3 (by kernel_rfl) h2;exact⟨(x,y,z),a,b,c,rfl,hx,hy,hz⟩
end
end Go.Proofs.YthmocomfjgmjoaaGreatDoor
namespace Go.Proofs.YthmocomfjgmjoaaGreatDoor
open Go.ChangeShapes Go.WideShapes Go.ChangeAt Go.RowKit
theorem A47{H:Type}{enc:TypeId×Value→H}{P:Program}{W:World}{base:Nat}{t e:TypeId}{v:Value}{d:DataW H}{ps:List MemPlace}
  (hu:P.underlying t=some (.slice e))(he:P.underlying e=some (.int .u8))(hc:P.cellsOf e=1)
  (hv:Value.okWide P W .any base t v)(h:DataW.Trod enc P W 0 (fun _=>true) true t v d ps):∃xs,A4N W v xs:=by
 obtain⟨a0,len0,cap0,rfl⟩:=okWide_slice hu hv;obtain⟨rO,hf⟩:=h;rcases open_ints hu he hc hf with⟨dp,_⟩|⟨x,l,c,zs,dp,_,hl,hm,hz,_,aH,hwz⟩
 ·simp[Value.cells]at dp;obtain⟨rfl,rfl,rfl⟩:=dp;exact⟨[],none,0,rfl,Jj,Jj,fun _=>rfl,fun h=>by simp at h⟩
 ·simp[Value.cells]at dp;obtain⟨rfl,rfl,rfl⟩:=dp;have jm:zs.length=cap0:=by simpa using hz
  have aN:(zs.take len0).length=len0:=by simp;omega
  have hm':cap0≤9223372036854775807:=by simpa[maxLen]using hm
  refine⟨zs.take len0,some x,cap0,by rw[aN],by rw[aN];exact hl,by rw[aN];omega,fun h=>by simp at h,fun h0=>?_⟩;rw[aN]at h0;obtain⟨b,off,spot⟩:=x;have bZ:=aH 0 J;have jO:spot=none:=by simpa[Addr.add]using World.cell?_spot bZ
  subst jO;refine⟨b,off,rfl,?_,fun k y hk=>?_⟩
  ·have:=block_lt_of_cell bZ;simpa[Addr.add]using this
  ·have au:=(A5.1 hk).1;rw[aN]at au;rw[List.getElem?_take,if_pos au]at hk;have aW:=aH k J;rw[Addr.add_lit]at aW;have hg:zs.getD k 0=y:=by simp[List.getD,hk]
   rw[hg]at aW;refine⟨_,aW,rfl,?_⟩;have hw:=hwz y (A4 hk);have:=hw;simp[Lit.wf,IntKind.min,IntKind.max,IntKind.signed,IntKind.bits]at this;exact this

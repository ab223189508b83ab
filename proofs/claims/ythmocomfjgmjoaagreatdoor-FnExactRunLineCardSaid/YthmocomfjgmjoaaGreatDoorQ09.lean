/- Base. -/
import Derived.Test.YthmocomfjgmjoaaGreatDoorQ04
set_option maxHeartbeats 2000000
set_option maxRecDepth 100000
namespace Go.Proofs.YthmocomfjgmjoaaGreatDoor
open Go.RowKit Go.Proofs.Tryz
variable {B N c:Nat}{l:List Sw}{m:I}{n:Nat}{out:Value}{r:Nat}{v:Value}{w w' wr:World}
def R6(r c:Nat)(y x:Int):Bool:=C1 0 ((r:Int)-1) y&&C1 0 ((c:Int)-1) x
def A2T(m:I)(r c:Nat)(y x:Int):Int:=if R6 r c y x then(m.getD y.toNat []).getD x.toNat 0 else-1
theorem CS(v:Value)(m:I)(r c:Nat)(y x:Int)(w:World)(hv:AI w v m)(hs:Ax r c m)(hr1:1≤r)(hr5:r≤5)(hc1:1≤c)(hc5:c≤5):Calls prog 94 #[v,.int .i64 y,.int .i64 x] w fun e w'=>e=.returned (.bool (R6 r c y x))∧w=w':=by
 have Hv:=Z hv;have aR:=Z (hs.ok hr1 hr5 hc1 hc5);have bF:=hs.1;obtain⟨ft,bE,hrl0,-⟩:=hs.row (y:=0) J;obtain⟨a,cap0,rfl,-⟩:=hv;obtain⟨b,off,cpr,he,hb,-⟩:=Hv.o.qac J;obtain⟨rfl,-⟩:a=some ⟨b,off,none⟩∧cap0=cpr:=by simpa using he
 obtain⟨u0,hck0,eK⟩:=Sl.at Hv.o bE;obtain⟨a0,cp0,rfl,-⟩:=eK;rw[hrl0,AF]at hck0;rw[bF]at Hv⊢;clear bE hrl0 he bF;cases h1:C1 0 ((r:Int)-1) y
 ·have Hr:=Z (show R6 r c y x=false from by simp[R6,h1]);have H1:=Z h1;clear h1;go_enter func94,ntmps94;go_wp2_with fail;refine(B8 _ _ _ Hv.o).mono ?_;rintro e w' ⟨rfl,rfl⟩;rw[aR.o];go_wp2_with fail;refine(Bi _ _ _ _).mono ?_;rintro e w' ⟨rfl,rfl⟩;rw[H1.o];go_wp2
  go_ret
  exact⟨AW Hr.o.symm,rfl⟩
 ·have Hr:=Z (show C1 0 ((c:Int)-1) x=R6 r c y x from by simp[R6,h1]);have H1:=Z h1;clear h1;go_enter func94,ntmps94;go_wp2_with fail;refine(B8 _ _ _ Hv.o).mono ?_;rintro e w' ⟨rfl,rfl⟩;rw[aR.o];go_wp2_with fail;refine(Bi _ _ _ _).mono ?_;rintro e w' ⟨rfl,rfl⟩;rw[H1.o];go_wp2_with fail;refine(Bi _ _ _ _).mono ?_;rintro e w' ⟨rfl,rfl⟩;go_wp2
  go_ret
  exact⟨AW Hr.o,rfl⟩
theorem DG(v:Value)(m:I)(r c:Nat)(y x:Int)(w:World)(hv:AI w v m)(hs:Ax r c m)(hr1:1≤r)(hr5:r≤5)(hc1:1≤c)(hc5:c≤5):Calls prog 210 #[v,.int .i64 y,.int .i64 x] w fun e w'=>e=.returned (.bool (R6 r c y x))∧w=w':=by
 have Hv:=Z hv;have aR:=Z (hs.ok hr1 hr5 hc1 hc5);have bF:=hs.1;obtain⟨ft,bE,hrl0,-⟩:=hs.row (y:=0) J;obtain⟨a,cap0,rfl,-⟩:=hv;obtain⟨b,off,cpr,he,hb,-⟩:=Hv.o.qac J;obtain⟨rfl,-⟩:a=some ⟨b,off,none⟩∧cap0=cpr:=by simpa using he
 obtain⟨u0,hck0,eK⟩:=Sl.at Hv.o bE;obtain⟨a0,cp0,rfl,-⟩:=eK;rw[hrl0,AF]at hck0;rw[bF]at Hv⊢;clear bE hrl0 he bF;cases h1:C1 0 ((r:Int)-1) y
 ·have Hr:=Z (show R6 r c y x=false from by simp[R6,h1]);have H1:=Z h1;clear h1;go_enter func210,ntmps210;go_wp2_with fail;refine(Bh _ _ _ Hv.o).mono ?_;rintro e w' ⟨rfl,rfl⟩;rw[aR.o];go_wp2_with fail;refine(Bd _ _ _ _).mono ?_;rintro e w' ⟨rfl,rfl⟩;rw[H1.o];go_wp2
  go_ret
  exact⟨AW Hr.o.symm,rfl⟩
 ·have Hr:=Z (show C1 0 ((c:Int)-1) x=R6 r c y x from by simp[R6,h1]);have H1:=Z h1;clear h1;go_enter func210,ntmps210;go_wp2_with fail;refine(Bh _ _ _ Hv.o).mono ?_;rintro e w' ⟨rfl,rfl⟩;rw[aR.o];go_wp2_with fail;refine(Bd _ _ _ _).mono ?_;rintro e w' ⟨rfl,rfl⟩;rw[H1.o];go_wp2_with fail;refine(Bd _ _ _ _).mono ?_;rintro e w' ⟨rfl,rfl⟩;go_wp2
  go_ret
  exact⟨AW Hr.o,rfl⟩
theorem AI.cells(h:AI w v m)(hs:Ax r c m)(hr:1≤r)(hc:1≤c):∃b off cp,v=.slice (some ⟨b,off,none⟩) r cp∧b<w.heap.size∧
  ∀y,y<r→∃br offr cpr,w.cell? ⟨b,off+y,none⟩=some (.slice (some ⟨br,offr,none⟩) c cpr)∧br<w.heap.size∧∀x,x<c→w.cell? ⟨br,offr+x,none⟩=some (.int .i64 (AJ m y x)):=by
 have bF:=hs.1;obtain⟨b,off,cp,rfl,hb,-⟩:=h.qac J;refine⟨b,off,cp,by rw[bF],hb,fun y hy=>?_⟩;obtain⟨row,aD,aj,eE⟩:=hs.row hy;obtain⟨u,aW,hu⟩:=Sl.at h aD;have hu:Au w u row:=hu;obtain⟨br,offr,cpr,rfl,dL,-⟩:=hu.qac J;refine⟨br,offr,cpr,by rw[aW,aj],dL,fun x hx=>?_⟩;obtain⟨z,hz⟩:∃z,row[x]? =some z:=⟨_,A3 J⟩;rw[Au.at hu hz];have:AJ m y x=z:=by
  unfold AJ;rw[List.getD_eq_getElem?_getD,List.getD_eq_getElem?_getD,aD];simp[hz]
 rw[this]
def Dg(r c:Nat)(m:I)(y1 y2 x1 x2:Int):Bool:=R6 r c y1 x1&&(R6 r c y2 x2&&decide (CL r c m (y1.toNat,y2.toNat,x1.toNat,x2.toNat)))
theorem FB{y x:Int}:R6 r c y x=true↔0≤y∧y<r∧0≤x∧x<c:=by
 unfold R6;rw[Af,Bz,Bz];omega
theorem Pz{s:Sw}:Dg r c m s.y1 s.y2 s.x1 s.x2=decide (CL r c m s):=by
 unfold Dg;by_cases h:CL r c m s
 ·have h':=h;obtain⟨h1,h2,h3,h4,-⟩:=h';rw[FB.2 J,FB.2 J];simp
 ·simp[h]
abbrev SwV(y1 y2 x1 x2:Int):Value:=.agg #[.int .i64 y1,.int .i64 y2,.int .i64 x1,.int .i64 x2]
theorem NG(v:Value)(m:I)(r c:Nat)(y1 y2 x1 x2:Int)(w:World)(hv:AI w v m)(hs:Ax r c m)(hr1:1≤r)(hr5:r≤5)(hc1:1≤c)(hc5:c≤5):Calls prog 93 #[v,SwV y1 y2 x1 x2] w fun e w'=>e=.returned (.bool (Dg r c m y1 y2 x1 x2))∧Below w.heap.size w w':=by
 obtain⟨b,off,cp,rfl,hb,ah⟩:=hv.cells hs hr1 hc1;have Hv:=Z hv;have aA:=Below.qab w (.cells #[.int .i64 y1,.int .i64 y2,.int .i64 x1,.int .i64 x2] 65);have dD:=Z (hv.keep aA);cases h1:R6 r c y1 x1
 ·have Hr:=Z (show Dg r c m y1 y2 x1 x2=false from by simp[Dg,h1]);have H1:=Z h1;clear h1 ah;go_enter func93,ntmps93;go_wp2_with fail;refine(CS _ _ _ _ _ _ _ dD.o hs hr1 hr5 hc1 hc5).mono ?_;rintro e w' ⟨rfl,rfl⟩;rw[H1.o];go_wp2
  go_ret
  exact⟨AW Hr.o.symm,aA⟩
 cases h2:R6 r c y2 x2
 ·have Hr:=Z (show Dg r c m y1 y2 x1 x2=false from by simp[Dg,h2]);have H1:=Z h1;clear h1 ah;have H2:=Z h2;clear h2;go_enter func93,ntmps93;go_wp2_with fail;refine(CS _ _ _ _ _ _ _ dD.o hs hr1 hr5 hc1 hc5).mono ?_;rintro e w' ⟨rfl,rfl⟩;rw[H1.o];go_wp2_with fail;refine(CS _ _ _ _ _ _ _ dD.o hs hr1 hr5 hc1 hc5).mono ?_;rintro e w' ⟨rfl,rfl⟩;rw[H2.o];go_wp2
  go_ret
  exact⟨AW Hr.o.symm,aA⟩
 have ly:=FB.1 h1;have nP:=FB.1 h2;obtain⟨Y1,rfl⟩:∃n:Nat,y1=n:=⟨y1.toNat,J⟩;obtain⟨X1,rfl⟩:∃n:Nat,x1=n:=⟨x1.toNat,J⟩;obtain⟨Y2,rfl⟩:∃n:Nat,y2=n:=⟨y2.toNat,J⟩;obtain⟨X2,rfl⟩:∃n:Nat,x2=n:=⟨x2.toNat,J⟩;have Hr:=Z (show Dg r c m Y1 Y2 X1 X2=decide (CL r c m (Y1,Y2,X1,X2))from by simp[Dg,h1,h2]);have H1:=Z h1;clear h1;have H2:=Z h2;clear h2;obtain⟨b1,o1,c1,hr1c,dK,bj⟩:=ah Y1 J;obtain⟨b2,o2,c2,hr2c,af,dZ⟩:=ah Y2 J;obtain⟨zn,e12,e21,e22⟩:w.cell? ⟨b1,o1+X1,none⟩=some (.int .i64 (AJ m Y1 X1))∧w.cell? ⟨b1,o1+X2,none⟩=some (.int .i64 (AJ m Y1 X2))∧w.cell? ⟨b2,o2+X1,none⟩=some (.int .i64 (AJ m Y2 X1))∧w.cell? ⟨b2,o2+X2,none⟩=some (.int .i64 (AJ m Y2 X2)):=⟨bj _ J,bj _ J,dZ _ J,dZ _ J⟩;have zp:Y1<r:=J;have qt:Y2<r:=J;have zq:X1<c:=J;have qu:X2<c:=J;clear ah bj dZ ly nP;have Hw:=Z aA;by_cases hy:Y1<Y2
 ·by_cases hx:X1<X2
  ·have jZ:decide ((Y2:Int)≤Y1)=false:=by simp;omega
   have li:decide ((X2:Int)≤X1)=false:=by simp;omega
   have dh:=Z (show decide (CL r c m (Y1,Y2,X1,X2))=decide (AJ m Y1 X1=AJ m Y2 X2∧AJ m Y1 X2=AJ m Y2 X1∧AJ m Y1 X1≠AJ m Y1 X2)from by simp[CL,Sw.y1,Sw.y2,Sw.x1,Sw.x2,hy,hx,qt,qu]);obtain⟨p,hp⟩:∃p,AJ m Y1 X1=p:=⟨_,rfl⟩;obtain⟨q,hq⟩:∃q,AJ m Y1 X2=q:=⟨_,rfl⟩;obtain⟨s,dY⟩:∃s,AJ m Y2 X1=s:=⟨_,rfl⟩;obtain⟨t,ht⟩:∃t,AJ m Y2 X2=t:=⟨_,rfl⟩;rw[hp]at zn dh;rw[hq]at e12 dh;rw[dY]at e21 dh;rw[ht]at e22 dh;clear hp hq dY ht;by_cases h1:p=t
   rotate_left
   ·have zr:(p==t)=false:=by simpa using h1
    have gG:=Z (show false=Dg r c m Y1 Y2 X1 X2 from by rw[Hr.o,dh.o];simp[h1]);clear h1;go_enter func93,ntmps93;go_wp2_with fail;refine(CS _ _ _ _ _ _ _ dD.o hs hr1 hr5 hc1 hc5).mono ?_;rintro e w' ⟨rfl,rfl⟩;rw[H1.o];go_wp2_with fail;refine(CS _ _ _ _ _ _ _ dD.o hs hr1 hr5 hc1 hc5).mono ?_;rintro e w' ⟨rfl,rfl⟩;rw[H2.o];go_wp2
    all_goals try(exfalso;omega)
    go_quiet (fail);go_wp2
    go_ret
    exact⟨AW gG.o,below_drewN aA _⟩
   subst h1;by_cases h2:q=s
   rotate_left
   ·have uN:(q==s)=false:=by simpa using h2
    have gG:=Z (show false=Dg r c m Y1 Y2 X1 X2 from by rw[Hr.o,dh.o];simp[h2]);clear h2;go_enter func93,ntmps93;go_wp2_with fail;refine(CS _ _ _ _ _ _ _ dD.o hs hr1 hr5 hc1 hc5).mono ?_;rintro e w' ⟨rfl,rfl⟩;rw[H1.o];go_wp2_with fail;refine(CS _ _ _ _ _ _ _ dD.o hs hr1 hr5 hc1 hc5).mono ?_;rintro e w' ⟨rfl,rfl⟩;rw[H2.o];go_wp2
    all_goals try(exfalso;omega)
    go_quiet (fail);go_wp2
    go_ret
    exact⟨AW gG.o,below_drewN aA _⟩
   subst h2;by_cases h3:p=q
   ·subst h3;have gG:=Z (show false=Dg r c m Y1 Y2 X1 X2 from by rw[Hr.o,dh.o];simp);go_enter func93,ntmps93;go_wp2_with fail;refine(CS _ _ _ _ _ _ _ dD.o hs hr1 hr5 hc1 hc5).mono ?_;rintro e w' ⟨rfl,rfl⟩;rw[H1.o];go_wp2_with fail;refine(CS _ _ _ _ _ _ _ dD.o hs hr1 hr5 hc1 hc5).mono ?_;rintro e w' ⟨rfl,rfl⟩;rw[H2.o];go_wp2
    all_goals try(exfalso;omega)
    go_quiet (fail);go_wp2
    go_ret
    exact⟨AW gG.o,below_drewN aA _⟩
   ·have uO:(p==q)=false:=by simpa using h3
    have gG:=Z (show(p !=q)=Dg r c m Y1 Y2 X1 X2 from by rw[Hr.o,dh.o];simp[h3]);clear h3;go_enter func93,ntmps93;go_wp2_with fail;refine(CS _ _ _ _ _ _ _ dD.o hs hr1 hr5 hc1 hc5).mono ?_;rintro e w' ⟨rfl,rfl⟩;rw[H1.o];go_wp2_with fail;refine(CS _ _ _ _ _ _ _ dD.o hs hr1 hr5 hc1 hc5).mono ?_;rintro e w' ⟨rfl,rfl⟩;rw[H2.o];go_wp2
    all_goals try(exfalso;omega)
    go_quiet (fail);go_wp2
    go_ret
    exact⟨AW gG.o,below_drewN aA _⟩
  ·have jZ:decide (Y2≤Y1)=false:=by simp;omega
   have li:decide (X2≤X1)=true:=by simp;omega
   have gG:=Z (show false=Dg r c m Y1 Y2 X1 X2 from by rw[Hr.o];simp[CL,Sw.x1,Sw.x2,hx]);go_enter func93,ntmps93;go_wp2_with fail;refine(CS _ _ _ _ _ _ _ dD.o hs hr1 hr5 hc1 hc5).mono ?_;rintro e w' ⟨rfl,rfl⟩;rw[H1.o];go_wp2_with fail;refine(CS _ _ _ _ _ _ _ dD.o hs hr1 hr5 hc1 hc5).mono ?_;rintro e w' ⟨rfl,rfl⟩;rw[H2.o];go_wp2
   go_ret
   exact⟨AW gG.o,aA⟩
 ·have jZ:decide (Y2≤Y1)=true:=by simp;omega
  have gG:=Z (show false=Dg r c m Y1 Y2 X1 X2 from by rw[Hr.o];simp[CL,Sw.y1,Sw.y2,hy]);go_enter func93,ntmps93;go_wp2_with fail;refine(CS _ _ _ _ _ _ _ dD.o hs hr1 hr5 hc1 hc5).mono ?_;rintro e w' ⟨rfl,rfl⟩;rw[H1.o];go_wp2_with fail;refine(CS _ _ _ _ _ _ _ dD.o hs hr1 hr5 hc1 hc5).mono ?_;rintro e w' ⟨rfl,rfl⟩;rw[H2.o];go_wp2
  go_ret
  exact⟨AW gG.o,aA⟩
theorem Ra(v:Value)(m:I)(r c:Nat)(y1 y2 x1 x2:Int)(w:World)(hv:AI w v m)(hs:Ax r c m)(hr1:1≤r)(hr5:r≤5)(hc1:1≤c)(hc5:c≤5):Calls prog 208 #[v,SwV y1 y2 x1 x2] w fun e w'=>e=.returned (.bool (Dg r c m y1 y2 x1 x2))∧Below w.heap.size w w':=by
 obtain⟨b,off,cp,rfl,hb,ah⟩:=hv.cells hs hr1 hc1;have Hv:=Z hv;have aA:=Below.qab w (.cells #[.int .i64 y1,.int .i64 y2,.int .i64 x1,.int .i64 x2] 65);have dD:=Z (hv.keep aA);cases h1:R6 r c y1 x1
 ·have Hr:=Z (show Dg r c m y1 y2 x1 x2=false from by simp[Dg,h1]);have H1:=Z h1;clear h1 ah;go_enter func208,ntmps208;go_wp2_with fail;refine(DG _ _ _ _ _ _ _ dD.o hs hr1 hr5 hc1 hc5).mono ?_;rintro e w' ⟨rfl,rfl⟩;rw[H1.o];go_wp2
  go_ret
  exact⟨AW Hr.o.symm,aA⟩
 cases h2:R6 r c y2 x2
 ·have Hr:=Z (show Dg r c m y1 y2 x1 x2=false from by simp[Dg,h2]);have H1:=Z h1;clear h1 ah;have H2:=Z h2;clear h2;go_enter func208,ntmps208;go_wp2_with fail;refine(DG _ _ _ _ _ _ _ dD.o hs hr1 hr5 hc1 hc5).mono ?_;rintro e w' ⟨rfl,rfl⟩;rw[H1.o];go_wp2_with fail;refine(DG _ _ _ _ _ _ _ dD.o hs hr1 hr5 hc1 hc5).mono ?_;rintro e w' ⟨rfl,rfl⟩;rw[H2.o];go_wp2
  go_ret
  exact⟨AW Hr.o.symm,aA⟩
 have ly:=FB.1 h1;have nP:=FB.1 h2;obtain⟨Y1,rfl⟩:∃n:Nat,y1=n:=⟨y1.toNat,J⟩;obtain⟨X1,rfl⟩:∃n:Nat,x1=n:=⟨x1.toNat,J⟩;obtain⟨Y2,rfl⟩:∃n:Nat,y2=n:=⟨y2.toNat,J⟩;obtain⟨X2,rfl⟩:∃n:Nat,x2=n:=⟨x2.toNat,J⟩;have Hr:=Z (show Dg r c m Y1 Y2 X1 X2=decide (CL r c m (Y1,Y2,X1,X2))from by simp[Dg,h1,h2]);have H1:=Z h1;clear h1;have H2:=Z h2;clear h2;obtain⟨b1,o1,c1,hr1c,dK,bj⟩:=ah Y1 J;obtain⟨b2,o2,c2,hr2c,af,dZ⟩:=ah Y2 J;obtain⟨zn,e12,e21,e22⟩:w.cell? ⟨b1,o1+X1,none⟩=some (.int .i64 (AJ m Y1 X1))∧w.cell? ⟨b1,o1+X2,none⟩=some (.int .i64 (AJ m Y1 X2))∧w.cell? ⟨b2,o2+X1,none⟩=some (.int .i64 (AJ m Y2 X1))∧w.cell? ⟨b2,o2+X2,none⟩=some (.int .i64 (AJ m Y2 X2)):=⟨bj _ J,bj _ J,dZ _ J,dZ _ J⟩;have zp:Y1<r:=J;have qt:Y2<r:=J;have zq:X1<c:=J;have qu:X2<c:=J;clear ah bj dZ ly nP;have Hw:=Z aA;by_cases hy:Y1<Y2
 ·by_cases hx:X1<X2
  ·have jZ:decide ((Y2:Int)≤Y1)=false:=by simp;omega
   have li:decide ((X2:Int)≤X1)=false:=by simp;omega
   have hbp:=AS hs Y1 X1;have hbq:=AS hs Y1 X2;have lF:=AS hs Y2 X1;have dh:=Z (show decide (CL r c m (Y1,Y2,X1,X2))=decide (AJ m Y2 X2=AJ m Y1 X1∧AJ m Y1 X2=1-AJ m Y1 X1∧AJ m Y2 X1=1-AJ m Y1 X1)from by
    simp only[CL,Sw.y1,Sw.y2,Sw.x1,Sw.x2,hy,hx,qt,qu,true_and];exact decide_eq_decide.2 ⟨fun h=>by omega,fun h=>by omega⟩)
   obtain⟨p,hp⟩:∃p,AJ m Y1 X1=p:=⟨_,rfl⟩;obtain⟨q,hq⟩:∃q,AJ m Y1 X2=q:=⟨_,rfl⟩;obtain⟨s,dY⟩:∃s,AJ m Y2 X1=s:=⟨_,rfl⟩;obtain⟨t,ht⟩:∃t,AJ m Y2 X2=t:=⟨_,rfl⟩;rw[hp]at zn dh hbp;rw[hq]at e12 dh;rw[dY]at e21 dh;rw[ht]at e22 dh;clear hp hq dY ht hbq lF;by_cases h1:t=p
   rotate_left
   ·have zr:(t==p)=false:=by simpa using h1
    have gG:=Z (show false=Dg r c m Y1 Y2 X1 X2 from by rw[Hr.o,dh.o];simp[h1]);clear h1;go_enter func208,ntmps208;go_wp2_with fail;refine(DG _ _ _ _ _ _ _ dD.o hs hr1 hr5 hc1 hc5).mono ?_;rintro e w' ⟨rfl,rfl⟩;rw[H1.o];go_wp2_with fail;refine(DG _ _ _ _ _ _ _ dD.o hs hr1 hr5 hc1 hc5).mono ?_;rintro e w' ⟨rfl,rfl⟩;rw[H2.o];go_wp2
    all_goals try(exfalso;omega)
    go_quiet (fail);go_wp2
    all_goals try(exfalso;omega)
    go_quiet (fail);go_wp2
    go_ret
    exact⟨AW gG.o,below_drewN (below_drewN aA _) _⟩
   subst h1;by_cases h2:q=1-t
   rotate_left
   ·have uN:(q==1-t)=false:=by simpa using h2
    have gG:=Z (show false=Dg r c m Y1 Y2 X1 X2 from by rw[Hr.o,dh.o];simp[h2]);clear h2;go_enter func208,ntmps208;go_wp2_with fail;refine(DG _ _ _ _ _ _ _ dD.o hs hr1 hr5 hc1 hc5).mono ?_;rintro e w' ⟨rfl,rfl⟩;rw[H1.o];go_wp2_with fail;refine(DG _ _ _ _ _ _ _ dD.o hs hr1 hr5 hc1 hc5).mono ?_;rintro e w' ⟨rfl,rfl⟩;rw[H2.o];go_wp2
    all_goals try(exfalso;omega)
    go_quiet (fail);go_wp2
    all_goals try(exfalso;omega)
    go_quiet (fail);go_wp2
    go_ret
    exact⟨AW gG.o,below_drewN (below_drewN aA _) _⟩
   have uN:(q==1-t)=true:=by simpa using h2
   by_cases h3:s=1-t
   ·have uO:(s==1-t)=true:=by simpa using h3
    have gG:=Z (show true=Dg r c m Y1 Y2 X1 X2 from by rw[Hr.o,dh.o];simp[h2,h3]);clear h2 h3;go_enter func208,ntmps208;go_wp2_with fail;refine(DG _ _ _ _ _ _ _ dD.o hs hr1 hr5 hc1 hc5).mono ?_;rintro e w' ⟨rfl,rfl⟩;rw[H1.o];go_wp2_with fail;refine(DG _ _ _ _ _ _ _ dD.o hs hr1 hr5 hc1 hc5).mono ?_;rintro e w' ⟨rfl,rfl⟩;rw[H2.o];go_wp2
    all_goals try(exfalso;omega)
    go_quiet (fail);go_wp2
    all_goals try(exfalso;omega)
    go_quiet (fail);go_wp2
    go_ret
    exact⟨AW gG.o,below_drewN (below_drewN aA _) _⟩
   ·have uO:(s==1-t)=false:=by simpa using h3
    have gG:=Z (show false=Dg r c m Y1 Y2 X1 X2 from by rw[Hr.o,dh.o];simp[h3]);clear h2 h3;go_enter func208,ntmps208;go_wp2_with fail;refine(DG _ _ _ _ _ _ _ dD.o hs hr1 hr5 hc1 hc5).mono ?_;rintro e w' ⟨rfl,rfl⟩;rw[H1.o];go_wp2_with fail;refine(DG _ _ _ _ _ _ _ dD.o hs hr1 hr5 hc1 hc5).mono ?_;rintro e w' ⟨rfl,rfl⟩;rw[H2.o];go_wp2
    all_goals try(exfalso;omega)
    go_quiet (fail);go_wp2
    all_goals try(exfalso;omega)
    go_quiet (fail);go_wp2
    go_ret
    exact⟨AW gG.o,below_drewN (below_drewN aA _) _⟩
  ·have jZ:decide (Y2≤Y1)=false:=by simp;omega
   have li:decide (X2≤X1)=true:=by simp;omega
   have gG:=Z (show false=Dg r c m Y1 Y2 X1 X2 from by rw[Hr.o];simp[CL,Sw.x1,Sw.x2,hx]);go_enter func208,ntmps208;go_wp2_with fail;refine(DG _ _ _ _ _ _ _ dD.o hs hr1 hr5 hc1 hc5).mono ?_;rintro e w' ⟨rfl,rfl⟩;rw[H1.o];go_wp2_with fail;refine(DG _ _ _ _ _ _ _ dD.o hs hr1 hr5 hc1 hc5).mono ?_;rintro e w' ⟨rfl,rfl⟩;rw[H2.o];go_wp2
   go_ret
   exact⟨AW gG.o,aA⟩
 ·have jZ:decide (Y2≤Y1)=true:=by simp;omega
  have gG:=Z (show false=Dg r c m Y1 Y2 X1 X2 from by rw[Hr.o];simp[CL,Sw.y1,Sw.y2,hy]);go_enter func208,ntmps208;go_wp2_with fail;refine(DG _ _ _ _ _ _ _ dD.o hs hr1 hr5 hc1 hc5).mono ?_;rintro e w' ⟨rfl,rfl⟩;rw[H1.o];go_wp2_with fail;refine(DG _ _ _ _ _ _ _ dD.o hs hr1 hr5 hc1 hc5).mono ?_;rintro e w' ⟨rfl,rfl⟩;rw[H2.o];go_wp2
  go_ret
  exact⟨AW gG.o,aA⟩
def G8(s:Sw):List Value:=[.int .i64 s.1,.int .i64 s.2.1,.int .i64 s.2.2.1,.int .i64 s.2.2.2]
def LI(l:List Sw):List Value:=l.flatMap G8
theorem Td:∀l,(LI l).length=l.length*4
 |[]=>rfl
 |s::l=>by
  have:=Td l;unfold LI at this⊢;rw[List.flatMap_cons,Ad,this,An];simp[G8];omega
theorem Qt(l k:List Sw):LI (l++k)=LI l++LI k:=by unfold LI;exact List.flatMap_append
theorem R7:∀{l:List Sw}{k:Nat}{s:Sw},l[k]? =some s→∀j,j<4→(LI l)[k*4+j]? =(G8 s)[j]?
 |[],k,s,h,_,_=>by simp at h
 |t::l,0,s,h,j,hj=>by
  simp at h;subst h;unfold LI;rw[List.flatMap_cons,Aq (by simp[G8];omega)];simp
 |t::l,k+1,s,h,j,hj=>by
  have h':l[k]? =some s:=by simpa using h
  have:=R7 h' j hj;unfold LI at this⊢;rw[List.flatMap_cons,List.getElem?_append_right (by simp[G8];omega),←this]
  congr 1
  simp[G8];omega
def Cw(B:Nat)(w:World)(v:Value)(l:List Sw):Prop:=w.ownsRow B 65 4 v l.length (LI l)
theorem Cw.lt(h:Cw B w v l):∀g,v.ownBlock=some g→B≤g∧g<w.heap.size:=World.ownsRow.lt h
theorem Cw.nil(B:Nat)(w:World):Cw B w (.slice none 0 0) []:=World.ownsRow_nil _ _ _ _
theorem Cw.qch(w:World)(B:Nat)(h:B≤w.heap.size):Cw B (w.alloc (.cells #[] 65)) (.slice (some ⟨w.heap.size,0,none⟩) 0 0) []:=
 ⟨rfl,.inr ⟨w.heap.size,0,#[],rfl,h,heap_alloc_new w _,Jj,Jj,Jj,by simp[LI]⟩⟩
theorem Cw.same(h:Cw B w v l)(hs:∀b,B≤b→b<w.heap.size→w'.heap[b]? =w.heap[b]?):Cw B w' v l:=by
 have aF:=h.lt;refine⟨h.1,?_⟩;rcases h.2 with h1|⟨g,cap,cur,rfl,h1,h2,h3⟩
 ·exact .inl h1
 ·exact .inr ⟨g,cap,cur,rfl,h1,(hs g h1 (aF g rfl).2).trans h2,h3⟩
theorem Cw.low{B':Nat}(h:Cw B w v l)(hb:B'≤B):Cw B' w v l:=by
 refine⟨h.1,?_⟩;rcases h.2 with h1|⟨g,cap,cur,rfl,h1,h2,h3⟩
 ·exact .inl h1
 ·exact .inr ⟨g,cap,cur,rfl,Aj hb h1,h2,h3⟩
theorem Cw.keep(h:Cw B w v l)(hb:Below w.heap.size w w'):Cw B w' v l:=h.same fun b _ h2=>hb.block b h2
theorem Cw.only{T:Bk}(h:Cw B w v l)(ho:AO T w w')(hd:∀b,B≤b→b<w.heap.size→¬T b):Cw B w' v l:=h.same fun b h1 h2=>ho.block b h2 (hd b h1 h2)
theorem Cw.shape(h:Cw B w v l):∃a cap,v=.slice a l.length cap:=by
 rcases h.2 with⟨rfl,h1⟩|⟨g,cap,cur,rfl,-⟩
 ·exact⟨none,0,by rw[h1]⟩
 ·exact⟨_,_,rfl⟩
theorem Cw.at(h:Cw B w v l)(aK:0<l.length):∃g cap,v=.slice (some ⟨g,0,none⟩) l.length cap∧B≤g∧g<w.heap.size∧l.length≤cap∧∀k s,l[k]? =some s→∀j u,(G8 s)[j]? =some u→w.cell? ⟨g,k*4+j,none⟩=some u:=by
 have aF:=h.lt;have h1:=h;rcases h.2 with⟨_,h0⟩|⟨g,cap,cur,rfl,hb,hh,h2,-⟩
 ·omega
 ·refine⟨g,cap,rfl,hb,(aF g rfl).2,h2,fun k s hk j u hj=>?_⟩;have zm:j<4:=by have:=(A5.1 hj).1;simpa[G8]using this
  have au:=(A5.1 hk).1;rw[World.ownsRow.cellAt h1 _ J,R7 hk j zm,hj]
theorem KO{P:Program}{fM:Array Oper}{rest:List Oper}{o:Oper}{a:Act}{Q:Exit→Act→World→Prop}(iM:o.guard=none)(s xo:Operand)(t:TypeId)
  (ho:o.op=.call {callee:=.builtin .append,args:=#[s,xo],argTypes:=#[t,t]})
  {z:Value}{bytes:Nat}(ht:P.underlying t=some (.slice 65))(cH:(P.info? 65).map (fun i=>(i.zero,i.size,i.bytes))=some (some z,4,bytes))(eM:z.cells.size=4)(dF:bytes≤64)
  (B:Nat)(x:Sw){gb:Nat}(hs:a.eval s=v)(hx:a.eval xo=.slice (some ⟨gb,0,none⟩) 1 c)(bH:w.heap[gb]? =some (.cells (G8 x).toArray 65 (0,0)))(aB:Cw B w v l)(aN:l.length<1073741824)(hB:B≤w.heap.size)
  (h:∀v' w',Cw B w' v' (l++[x])→AO (fun b=>v.ownBlock=some b) w w'→wpList P fM Q rest (a.put o.dst v') w'):
  wpList P fM Q (o::rest) a w:=by
 obtain⟨i,hi,hz,aV,du⟩:=info_parts cH;have cD:∀j u,(G8 x)[j]? =some u→w.cell? ((⟨gb,0,none⟩:Addr).add j)=some u:=by
  intro j u hj;have:(⟨gb,0,none⟩:Addr).add j=⟨gb,j,none⟩:=by simp only[Addr.add,Nat.zero_add];split<;>simp_all
  rw[this,cell_of_row w gb j _ _ (0,0) bH];simpa using hj
 refine wpList_append_own (P:=P) w iM s xo t ho B 65 i z 4 bytes ht hi hz aV du eM Jq v l.length (LI l) hs aB ⟨gb,0,none⟩ 1 c (G8 x) hx rfl cD (by intro u hu;simp[G8]at hu;rcases hu with rfl|rfl|rfl|rfl<;>rfl)
  (by simp[maxLen];omega) (by have:(l.length+1)*bytes≤1073741824*64:=Nat.mul_le_mul J dF
                              omega) hB ?_
 intro v' w' h1 h2 _;exact h v' w' (by unfold Cw;rw[Qt];simpa[LI]using h1) ⟨h2.os,h2.tape,h2.output,h2.size,fun b hb hn=>h2.block b hb (fun e=>hn e.symm)⟩
theorem K8:(Tryz.prog.info? 65).map (fun i=>(i.zero,i.size,i.bytes))=some (some (.agg #[.int .i64 0,.int .i64 0,.int .i64 0,.int .i64 0]),4,32):=by kernel_rfl
structure LH(n:Nat)(w wr:World)(out:Value)(l:List Sw)(N:Nat):Prop where
 own:Cw n wr out l
 bel:Below n w wr
 len:l.length≤N
theorem LH.le{N':Nat}(h:LH n w wr out l N)(hn:N≤N'):LH n w wr out l N':=⟨h.own,h.bel,Aj h.len hn⟩
theorem LH.keep{wr':World}(h:LH n w wr out l N)(hb:Below wr.heap.size wr wr')(hn:n≤w.heap.size):LH n w wr' out l N:=⟨h.own.keep hb,h.bel.qaa hb hn,h.len⟩
theorem Ls(v:Value)(m:I)(r c:Nat)(w:World)(hv:AI w v m)(hs:Ax r c m)(hr1:1≤r)(hr5:r≤5)(hc1:1≤c)(hc5:c≤5):Calls prog 162 #[v] w fun e w'=>∃v',e=.returned v'∧Cw w.heap.size w' v' (Bj r c m)∧Below w.heap.size w w':=by
 obtain⟨b,off,cp,rfl,hb,ah⟩:=hv.cells hs hr1 hc1;have Hv:=Z hv;have aR:=Z (hs.ok hr1 hr5 hc1 hc5);obtain⟨b0,o0,c0,bZ,bu,-⟩:=ah 0 J;rw[AF]at bZ;clear ah;have St:=Z (LH.mk (n:=w.heap.size) (N:=0) (Cw.nil w.heap.size w) (A6 _ _) (A2 _));go_enter func162,ntmps162;go_wp2_with fail;refine(B8 _ _ _ Hv.o).mono ?_;rintro e w' ⟨rfl,rfl⟩;rw[aR.o];go_wp2;go_loopw [3,4,5,6,7,8,14] (fun out _ _ _ _ _ i wr=>∃a:Nat,a≤r∧i=.int .i64 a∧Hid (LH w.heap.size w wr out (YZ r c m a) (125*a))) (fun _ _ _ _ _ _ i _=>r-(intOf i).toNat);exact⟨0,A7 _,rfl,St⟩;clear St;obtain⟨a,ha,rfl,St⟩:=hrel;by_cases aF:a<r
 ·go_wp2;go_loopw [3,5,6,7,8] (fun out i _ _ _ wr=>∃b:Nat,b≤r∧a+1≤b∧i=.int .i64 b∧Hid (LH w.heap.size w wr out (YZ r c m a++Yz r c m a b) (125*a+25*b))) (fun _ i _ _ _ _=>r-(intOf i).toNat);exact⟨a+1,aF,A2 _,by go_num,Z (by rw[Xp,List.append_nil];exact St.o.le J)⟩;clear St;obtain⟨b',kg,gZ,rfl,St⟩:=hrel;by_cases bW:b'<r
  ·have h0:=(St.o.bel.cell (p:=⟨b,off,none⟩) hb).trans bZ;go_wp2;clear h0;go_loopw [3,6,7,8,29] (fun out _ _ _ i wr=>∃x:Nat,x≤c∧i=.int .i64 x∧Hid (LH w.heap.size w wr out (YZ r c m a++Yz r c m a b'++ZE r c m a b' x) (125*a+25*b'+5*x))) (fun _ _ _ _ i _=>c-(intOf i).toNat);exact⟨0,A7 _,rfl,Z (by rw[Yd,List.append_nil];exact St.o.le J)⟩;clear St;obtain⟨x,hx,rfl,St⟩:=hrel;by_cases hlt3:x<c
   ·go_wp2;go_loopw [3,7,8] (fun out i _ wr=>∃y:Nat,y≤c∧x+1≤y∧i=.int .i64 y∧Hid (LH w.heap.size w wr out (YZ r c m a++Yz r c m a b'++ZE r c m a b' x++TC r c m a b' x y) (125*a+25*b'+5*x+y))) (fun _ i _ _=>c-(intOf i).toNat);exact⟨x+1,hlt3,A2 _,by go_num,Z (by rw[XG,List.append_nil];exact St.o.le J)⟩;clear St;obtain⟨y,hy,cK,rfl,St⟩:=hrel;have h0:=(St.o.bel.cell (p:=⟨b,off,none⟩) hb).trans bZ;by_cases hlt4:y<c
    ·have lF:=St.o.bel.size;have Hk:=Z (B9.new wr (G8 (a,b',x,y)).toArray 65);have fh:=Z (Below.qab wr (.cells (G8 (a,b',x,y)).toArray 65));go_wp2_with fail;refine(NG _ m r c a b' x y _ ((Hv.o.keep St.o.bel).keep fh.o) hs hr1 hr5 hc1 hc5).mono ?_;rintro e w2 ⟨rfl,af⟩;have qw:Below wr.heap.size wr w2:=fh.o.qaa af (A2 _);have dW:=Z (Hk.o.keep af);have ec:=Z (St.o.keep qw (A2 _));have k0:w2.cell? ⟨wr.heap.size,0,none⟩=some (.int .i64 a):=dW.o.cell 0;have k1:w2.cell? ⟨wr.heap.size,1,none⟩=some (.int .i64 b'):=dW.o.cell 1;have k2:w2.cell? ⟨wr.heap.size,2,none⟩=some (.int .i64 x):=dW.o.cell 2;have k3:w2.cell? ⟨wr.heap.size,3,none⟩=some (.int .i64 y):=dW.o.cell 3;have ix:Dg r c m a b' x y=decide (CL r c m (a,b',x,y)):=Pz (s:=(a,b',x,y));rw[ix];clear ix Hk dW;by_cases hok:CL r c m (a,b',x,y)
     ·rw[decide_eq_true hok];have aG:=Z (show TC r c m a b' x (y+1)=TC r c m a b' x y++[(a,b',x,y)]from by rw[OP,if_pos hok]);clear hok;have gH:=Z (Below.qab w2 (.cells (G8 (a,b',x,y)).toArray 65));have iD:=Z (B9.new w2 (G8 (a,b',x,y)).toArray 65);have gI:=Z (ec.o.keep gH.o (A2 _));obtain⟨l,hl⟩:∃l,l=YZ r c m a++Yz r c m a b'++ZE r c m a b' x++TC r c m a b' x y:=⟨_,rfl⟩;rw[←hl]at gI;have Hl:=Z hl;clear hl ec;obtain⟨ao,co,rfl⟩:=gI.o.own.shape;have aN:=Nat.lt_of_le_of_lt gI.o.len (show _<1073741824 from by omega);have jJ:=gI.o.bel.size;go_wp2_with (at_builtin;(refine KO (w:=w2.alloc (.cells (G8 (a,b',x,y)).toArray 65)) (v:=.slice ao l.length co) (l:=l) (gb:=w2.heap.size) (c:=1) rfl _ _ 116 rfl underlying116 K8 rfl Jq w.heap.size (a,b',x,y) rfl rfl (by exact iD.o) (by exact gI.o.own) aN (by exact jJ) ?_);intro v4 w4 o4 b4);have oH:=Z (LH.mk (w:=w) o4 (gI.o.bel.trans (b4.below jJ fun g hg=>(gI.o.own.lt g hg).1)) (by rw[Ad];exact Nat.succ_le_succ gI.o.len));refine⟨⟨y+1,J,J,by go_num,Z ?_⟩,by simp[intOf];omega⟩;rw[aG.o,←List.append_assoc,←Hl.o];exact oH.o
     ·rw[decide_eq_false hok];have aG:=Z (show TC r c m a b' x (y+1)=TC r c m a b' x y from by rw[OP,if_neg hok,List.append_nil]);clear hok;go_wp2;go_roundw;exact⟨y+1,J,J,by go_num,Z (by rw[aG.o];exact ec.o.le J)⟩;exact Jv
    ·go_wp2;go_roundw;exact⟨x+1,J,by go_num,Z (by rw[XF,←List.append_assoc];obtain rfl:y=c:=J;exact St.o.le J)⟩;exact Jv
   ·go_wp2;go_roundw;exact⟨b'+1,J,J,by go_num,Z (by rw[WT,←List.append_assoc];obtain rfl:x=c:=J;exact St.o.le J)⟩;exact Jv
  ·go_wp2;go_roundw;exact⟨a+1,J,by go_num,Z (by rw[Xy];obtain rfl:b'=r:=J;exact St.o.le J)⟩;exact Jv
 ·obtain⟨ao,co,rfl⟩:=St.o.own.shape;go_wp2
  go_ret
  obtain rfl:a=r:=J;exact⟨_,rfl,by rw[←A0w];exact St.o.own,St.o.bel⟩
theorem Oq(v:Value)(m:I)(r c:Nat)(w:World)(hv:AI w v m)(hs:Ax r c m)(hr1:1≤r)(hr5:r≤5)(hc1:1≤c)(hc5:c≤5):Calls prog 252 #[v] w fun e w'=>∃v',e=.returned v'∧Cw w.heap.size w' v' (Bj r c m)∧Below w.heap.size w w':=by
 obtain⟨b,off,cp,rfl,hb,ah⟩:=hv.cells hs hr1 hc1;have Hv:=Z hv;have aR:=Z (hs.ok hr1 hr5 hc1 hc5);obtain⟨b0,o0,c0,bZ,bu,-⟩:=ah 0 J;rw[AF]at bZ;clear ah;have St:=Z (LH.mk (n:=w.heap.size) (w:=w) (N:=0) (Cw.qch w w.heap.size (A2 _)) (Below.qab w _) (A2 _));go_enter func252,ntmps252;go_wp2_with fail;refine(Bh _ _ _ Hv.o).mono ?_;rintro e w' ⟨rfl,rfl⟩;rw[aR.o];go_wp2;go_loopw [3,4,5,6,7,8,15] (fun out _ _ _ _ _ i wr=>∃a:Nat,a≤r∧i=.int .i64 a∧Hid (LH w.heap.size w wr out (YZ r c m a) (125*a))) (fun _ _ _ _ _ _ i _=>r-(intOf i).toNat);exact⟨0,A7 _,rfl,St⟩;clear St;obtain⟨a,ha,rfl,St⟩:=hrel;by_cases aF:a<r
 ·go_wp2;go_loopw [3,5,6,7,8] (fun out i _ _ _ wr=>∃b:Nat,b≤r∧a+1≤b∧i=.int .i64 b∧Hid (LH w.heap.size w wr out (YZ r c m a++Yz r c m a b) (125*a+25*b))) (fun _ i _ _ _ _=>r-(intOf i).toNat);exact⟨a+1,aF,A2 _,by go_num,Z (by rw[Xp,List.append_nil];exact St.o.le J)⟩;clear St;obtain⟨b',kg,gZ,rfl,St⟩:=hrel;by_cases bW:b'<r
  ·have h0:=(St.o.bel.cell (p:=⟨b,off,none⟩) hb).trans bZ;go_wp2;clear h0;go_loopw [3,6,7,8,30] (fun out _ _ _ i wr=>∃x:Nat,x≤c∧i=.int .i64 x∧Hid (LH w.heap.size w wr out (YZ r c m a++Yz r c m a b'++ZE r c m a b' x) (125*a+25*b'+5*x))) (fun _ _ _ _ i _=>c-(intOf i).toNat);exact⟨0,A7 _,rfl,Z (by rw[Yd,List.append_nil];exact St.o.le J)⟩;clear St;obtain⟨x,hx,rfl,St⟩:=hrel;by_cases hlt3:x<c
   ·go_wp2;go_loopw [3,7,8] (fun out i _ wr=>∃y:Nat,y≤c∧x+1≤y∧i=.int .i64 y∧Hid (LH w.heap.size w wr out (YZ r c m a++Yz r c m a b'++ZE r c m a b' x++TC r c m a b' x y) (125*a+25*b'+5*x+y))) (fun _ i _ _=>c-(intOf i).toNat);exact⟨x+1,hlt3,A2 _,by go_num,Z (by rw[XG,List.append_nil];exact St.o.le J)⟩;clear St;obtain⟨y,hy,cK,rfl,St⟩:=hrel;have h0:=(St.o.bel.cell (p:=⟨b,off,none⟩) hb).trans bZ;by_cases hlt4:y<c
    ·have lF:=St.o.bel.size;have Hk:=Z (B9.new wr (G8 (a,b',x,y)).toArray 65);have fh:=Z (Below.qab wr (.cells (G8 (a,b',x,y)).toArray 65));go_wp2_with fail;refine(Ra _ m r c a b' x y _ ((Hv.o.keep St.o.bel).keep fh.o) hs hr1 hr5 hc1 hc5).mono ?_;rintro e w2 ⟨rfl,af⟩;have qw:Below wr.heap.size wr w2:=fh.o.qaa af (A2 _);have dW:=Z (Hk.o.keep af);have ec:=Z (St.o.keep qw (A2 _));have k0:w2.cell? ⟨wr.heap.size,0,none⟩=some (.int .i64 a):=dW.o.cell 0;have k1:w2.cell? ⟨wr.heap.size,1,none⟩=some (.int .i64 b'):=dW.o.cell 1;have k2:w2.cell? ⟨wr.heap.size,2,none⟩=some (.int .i64 x):=dW.o.cell 2;have k3:w2.cell? ⟨wr.heap.size,3,none⟩=some (.int .i64 y):=dW.o.cell 3;have ix:Dg r c m a b' x y=decide (CL r c m (a,b',x,y)):=Pz (s:=(a,b',x,y));rw[ix];clear ix Hk dW;by_cases hok:CL r c m (a,b',x,y)
     ·rw[decide_eq_true hok];have aG:=Z (show TC r c m a b' x (y+1)=TC r c m a b' x y++[(a,b',x,y)]from by rw[OP,if_pos hok]);clear hok;have gH:=Z (Below.qab w2 (.cells (G8 (a,b',x,y)).toArray 65));have iD:=Z (B9.new w2 (G8 (a,b',x,y)).toArray 65);have gI:=Z (ec.o.keep gH.o (A2 _));obtain⟨l,hl⟩:∃l,l=YZ r c m a++Yz r c m a b'++ZE r c m a b' x++TC r c m a b' x y:=⟨_,rfl⟩;rw[←hl]at gI;have Hl:=Z hl;clear hl ec;obtain⟨ao,co,rfl⟩:=gI.o.own.shape;have aN:=Nat.lt_of_le_of_lt gI.o.len (show _<1073741824 from by omega);have jJ:=gI.o.bel.size;go_wp2_with (at_builtin;(refine KO (w:=w2.alloc (.cells (G8 (a,b',x,y)).toArray 65)) (v:=.slice ao l.length co) (l:=l) (gb:=w2.heap.size) (c:=1) rfl _ _ 116 rfl underlying116 K8 rfl Jq w.heap.size (a,b',x,y) rfl rfl (by exact iD.o) (by exact gI.o.own) aN (by exact jJ) ?_);intro v4 w4 o4 b4);have oH:=Z (LH.mk (w:=w) o4 (gI.o.bel.trans (b4.below jJ fun g hg=>(gI.o.own.lt g hg).1)) (by rw[Ad];exact Nat.succ_le_succ gI.o.len));refine⟨⟨y+1,J,J,by go_num,Z ?_⟩,by simp[intOf];omega⟩;rw[aG.o,←List.append_assoc,←Hl.o];exact oH.o
     ·rw[decide_eq_false hok];have aG:=Z (show TC r c m a b' x (y+1)=TC r c m a b' x y from by rw[OP,if_neg hok,List.append_nil]);clear hok;go_wp2;go_roundw;exact⟨y+1,J,J,by go_num,Z (by rw[aG.o];exact ec.o.le J)⟩;exact Jv
    ·go_wp2;go_roundw;exact⟨x+1,J,by go_num,Z (by rw[XF,←List.append_assoc];obtain rfl:y=c:=J;exact St.o.le J)⟩;exact Jv
   ·go_wp2;go_roundw;exact⟨b'+1,J,J,by go_num,Z (by rw[WT,←List.append_assoc];obtain rfl:x=c:=J;exact St.o.le J)⟩;exact Jv
  ·go_wp2;go_roundw;exact⟨a+1,J,by go_num,Z (by rw[Xy];obtain rfl:b'=r:=J;exact St.o.le J)⟩;exact Jv
 ·obtain⟨ao,co,rfl⟩:=St.o.own.shape;go_wp2
  go_ret
  obtain rfl:a=r:=J;exact⟨_,rfl,by rw[←A0w];exact St.o.own,St.o.bel⟩
def N6(m:I)(y x:Int):Bool:=AC m&&R6 m.length (m.headD []).length y x
def Kn(m:I)(y x:Int):Int:=if N6 m y x then AJ m y.toNat x.toNat else-1
theorem J9(hs:Ax r c m)(hr:1≤r):m.length=r∧(m.headD []).length=c:=by
 refine⟨hs.1,?_⟩;cases m with
 |nil=>exact absurd hs.1 (by simp;omega)
 |cons row l=>exact(hs.2 row List.mem_cons_self).1
theorem VF(h:AC m=false)(y x:Int):N6 m y x=false:=by rw[N6,h];rfl
theorem J7(hs:Ax r c m)(hr:1≤r)(h:AC m=true)(y x:Int):N6 m y x=R6 r c y x:=by
 obtain⟨e1,e2⟩:=J9 hs hr;rw[N6,h,e1,e2];rfl
theorem ZS(hs:Ax r c m)(hr:1≤r)(h:AC m=true)(y x:Int):Kn m y x=A2T m r c y x:=by
 rw[Kn,J7 hs hr h];rfl
theorem LA(F0:Nat)(eS:F0=94∨F0=210)(v:Value)(m:I)(y x:Int)(w:World)(hv:AI w v m):Calls prog F0 #[v,.int .i64 y,.int .i64 x] w fun e w'=>e=.returned (.bool (N6 m y x))∧w=w':=by
 rcases eS with rfl|rfl
 all_goals
  cases h:AC m
  ·have Hr:=Z (VF h y x);have aR:=Z h;have Hv:=Z hv;obtain⟨a,cap0,rfl,-⟩:=hv;clear h
   first|go_enter func94,ntmps94|go_enter func210,ntmps210
   go_wp2_with fail
   first|(go_at_call 84;refine(B8 _ _ _ Hv.o).mono ?_)|(refine(Bh _ _ _ Hv.o).mono ?_)
   rintro e w' ⟨rfl,rfl⟩;rw[aR.o];go_wp2
   go_ret
   exact⟨AW Hr.o.symm,rfl⟩
  ·obtain⟨r,c,hr1,hr5,hc1,hc5,hs⟩:=Az h;rw[J7 hs hr1 h]
   first
    |exact CS v m r c y x w hv hs hr1 hr5 hc1 hc5
    |exact DG v m r c y x w hv hs hr1 hr5 hc1 hc5
theorem Pd(F0:Nat)(eS:F0=39∨F0=150)(v:Value)(m:I)(y x:Int)(w:World)(hv:AI w v m):Calls prog F0 #[v,.int .i64 y,.int .i64 x] w fun e w'=>e=.returned (.int .i64 (Kn m y x))∧w=w':=by
 rcases eS with rfl|rfl
 all_goals
  have Hv:=Z hv;obtain⟨a,cap0,rfl,-⟩:=id hv;cases h1:N6 m y x
  ·have Hr:=Z (show Kn m y x=-1 from by simp[Kn,h1]);have H1:=Z h1;clear h1
   first|go_enter func39,ntmps39|go_enter func150,ntmps150
   go_wp2_with fail
   first|(go_at_call 94;refine(LA 94 (.inl rfl) _ _ _ _ _ Hv.o).mono ?_)|(refine(LA 210 (.inr rfl) _ _ _ _ _ Hv.o).mono ?_)
   rintro e w' ⟨rfl,rfl⟩;rw[H1.o];go_wp2
   go_ret
   exact⟨CY Hr.o.symm,rfl⟩
  ·have hok:AC m=true:=by unfold N6 at h1;rw[Af]at h1;exact h1.1
   obtain⟨r,c,hr1,hr5,hc1,hc5,hs⟩:=Az hok;have h2:=h1;rw[J7 hs hr1 hok]at h2;unfold R6 at h2;rw[Af,Bz,Bz]at h2;obtain⟨⟨y0,y1⟩,x0,x1⟩:=h2;obtain⟨yn,rfl⟩:∃n:Nat,y=n:=⟨y.toNat,J⟩;obtain⟨xn,rfl⟩:∃n:Nat,x=n:=⟨x.toNat,J⟩;have bF:=hs.1;obtain⟨row,aD,aj,eE⟩:=hs.row (y:=yn) J;obtain⟨b,off,cpr,he,hb,-⟩:=Hv.o.qac J;obtain⟨rfl,-⟩:a=some ⟨b,off,none⟩∧cap0=cpr:=by simpa using he
   obtain⟨u,aW,hu⟩:=Sl.at Hv.o aD;have hu:Au w u row:=hu;obtain⟨br,offr,cpr2,rfl,dL,bA⟩:=hu.qac J;obtain⟨z,hz⟩:∃z,row[xn]? =some z:=⟨_,A3 J⟩;have oI:=Au.at hu hz;have Hr:=Z (show Kn m yn xn=z from by
    unfold Kn;rw[if_pos h1,Int.toNat_natCast,Int.toNat_natCast];unfold AJ;rw[B7 aD,B7 hz])
   have H1:=Z h1;rw[bF]at Hv⊢;have gV:yn<r:=J;have sI:xn<row.length:=J;clear h1 aD hz hu bA aj bF he hok
   first|go_enter func39,ntmps39|go_enter func150,ntmps150
   go_wp2_with fail
   first|(go_at_call 94;refine(LA 94 (.inl rfl) _ _ _ _ _ Hv.o).mono ?_)|(refine(LA 210 (.inr rfl) _ _ _ _ _ Hv.o).mono ?_)
   rintro e w' ⟨rfl,rfl⟩;rw[H1.o];go_wp2
   go_ret
   exact⟨CY Hr.o.symm,rfl⟩
def Nz(w:World)(o:Option I):Ending→World→Prop:=fun e w'=>∃v,e=.returned (.tuple #[v,.bool o.isSome])∧Ag 32 (Ag 3 Ap) (Iv w.heap.size w'.heap.size) w' v (o.getD [])∧Below w.heap.size w w'
def Pa(m:I)(y x cell:Int):Option I:=if N6 m y x=true∧C1 0 1 cell=true then some (setC m y.toNat x.toNat cell)else none
theorem UU(F0:Nat)(eS:F0=38∨F0=149)(v:Value)(m:I)(y x cell:Int)(w:World)(hv:AI w v m):Calls prog F0 #[v,.int .i64 y,.int .i64 x,.int .i64 cell] w (Nz w (Pa m y x cell)):=by
 rcases eS with rfl|rfl
 all_goals
  have Hv:=Z hv;obtain⟨a,cap0,rfl,-⟩:=id hv;cases h1:N6 m y x
  ·have Hr:=Z (show Pa m y x cell=none from by simp[Pa,h1]);have H1:=Z h1;clear h1
   first|go_enter func38,ntmps38|go_enter func149,ntmps149
   go_wp2_with fail
   first|(go_at_call 94;refine(LA 94 (.inl rfl) _ _ _ _ _ Hv.o).mono ?_)|(refine(LA 210 (.inr rfl) _ _ _ _ _ Hv.o).mono ?_)
   rintro e w' ⟨rfl,rfl⟩;rw[H1.o];go_wp2
   go_ret2
   exact⟨_,by rw[Hr.o];rfl,by rw[Hr.o];exact Ag.nil _ _ _ _,A6 _ _⟩
  ·cases h3:C1 0 1 cell
   ·have Hr:=Z (show Pa m y x cell=none from by simp[Pa,h3]);have H1:=Z h1;have H3:=Z h3;clear h1 h3
    first|go_enter func38,ntmps38|go_enter func149,ntmps149
    go_wp2_with fail
    first|(go_at_call 94;refine(LA 94 (.inl rfl) _ _ _ _ _ Hv.o).mono ?_)|(refine(LA 210 (.inr rfl) _ _ _ _ _ Hv.o).mono ?_)
    rintro e w' ⟨rfl,rfl⟩;rw[H1.o];go_wp2_with fail
    first|(go_at_call 95;refine(Bi _ _ _ _).mono ?_)|(refine(Bd _ _ _ _).mono ?_)
    rintro e w' ⟨rfl,rfl⟩;rw[H3.o];go_wp2
    go_ret2
    exact⟨_,by rw[Hr.o];rfl,by rw[Hr.o];exact Ag.nil _ _ _ _,A6 _ _⟩
   ·have hok:AC m=true:=by unfold N6 at h1;rw[Af]at h1;exact h1.1
    obtain⟨r,c,hr1,hr5,hc1,hc5,hs⟩:=Az hok;have h2:=h1;rw[J7 hs hr1 hok]at h2;unfold R6 at h2;rw[Af,Bz,Bz]at h2;obtain⟨⟨y0,y1⟩,x0,x1⟩:=h2;obtain⟨yn,rfl⟩:∃n:Nat,y=n:=⟨y.toNat,J⟩;obtain⟨xn,rfl⟩:∃n:Nat,x=n:=⟨x.toNat,J⟩;have Hr:=Z (show Pa m yn xn cell=some (setC m yn xn cell)from by simp[Pa,h1,h3]);have aH:=(Bz ..).mp h3;have H1:=Z h1;have H3:=Z h3;have kX:=Z (show m.length≤1048576 from by have:=hs.1;omega);have HR:=Z (show ∀p∈m,p.length≤1048576 from fun p hp=>by have:=(hs.2 p hp).1;omega);clear h1 h3 hok
    first|go_enter func38,ntmps38|go_enter func149,ntmps149
    go_wp2_with fail
    first|(go_at_call 94;refine(LA 94 (.inl rfl) _ _ _ _ _ Hv.o).mono ?_)|(refine(LA 210 (.inr rfl) _ _ _ _ _ Hv.o).mono ?_)
    rintro e w' ⟨rfl,rfl⟩;rw[H1.o];go_wp2_with fail
    first|(go_at_call 95;refine(Bi _ _ _ _).mono ?_)|(refine(Bd _ _ _ _).mono ?_)
    rintro e w' ⟨rfl,rfl⟩;rw[H3.o];go_wp2_with fail
    first|(go_at_call 82;refine(F5 _ m _ Hv.o kX.o HR.o).mono ?_)|(refine(D5 _ m _ Hv.o kX.o HR.o).mono ?_)
    rintro e w2 ⟨v2,rfl,o2,b2⟩;have bF:=hs.1;obtain⟨G,cap,rfl,hG,ae,hGl,-⟩:=o2.qac J;obtain⟨aD,aj⟩:=CM hs (y:=yn) J;obtain⟨q,cq,aW,-,hq,-,dj,eX,-,ai⟩:=AV o2 aD J;obtain⟨⟨o,ho⟩,g8⟩:=eX xn J;have o3:=ai w2 (fun _ _=>rfl) xn cell J ⟨J,J⟩;have b3:=b2.setCell (p:=⟨q,xn,none⟩) hq.1 (.int .i64 cell);rw[aj]at aW dj;rw[bF]at o3 ae⊢;have cY:=Z o3;have bN:=Z b3;clear o2 o3 b2 b3 ai aD eX;go_wp2
    go_ret2
    refine⟨_,by rw[Hr.o];rfl,?_,bN.o⟩;rw[Hr.o,As];exact cY.o

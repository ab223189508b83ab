/- Base. -/
import Derived.Test.YthmocomfjgmjoaaGreatDoorQ04
set_option maxHeartbeats 2000000
set_option maxRecDepth 100000
namespace Go.Proofs.YthmocomfjgmjoaaGreatDoor
open Go.RowKit
def Q8(r c:Nat)(y x:Int):Bool:=BR 0 ((r:Int)-1) y&&BR 0 ((c:Int)-1) x
def A3L(m:List (List Int))(r c:Nat)(y x:Int):Int:=if Q8 r c y x then(m.getD y.toNat []).getD x.toNat 0 else-1
theorem Cq(v:Value)(m:List (List Int))(r c:Nat)(y x:Int)(w:World)(hv:Ak w v m)(hs:Ac r c m)(hr1:1≤r)(hr5:r≤5)(hc1:1≤c)(hc5:c≤5):Calls Tryz.prog 94 #[v,.int .i64 y,.int .i64 x] w fun e w'=>e=.returned (.bool (Q8 r c y x))∧w=w':=by
 have Hv:=Z hv;have aS:=Z (hs.ok hr1 hr5 hc1 hc5);have bJ:=hs.1;obtain⟨fX,bG,hrl0,-⟩:=hs.row (y:=0) (by omega);obtain⟨a,cap0,rfl,-⟩:=hv;obtain⟨b,off,cpr,he,hb,-⟩:=Hv.o.inv_ne (by omega);obtain⟨rfl,-⟩:a=some ⟨b,off,none⟩∧cap0=cpr:=by simpa using he
 obtain⟨u0,hck0,eL⟩:=Sl.at Hv.o bG;obtain⟨a0,cp0,rfl,-⟩:=eL;rw[hrl0,Nat.add_zero] at hck0;rw[bJ] at Hv⊢;clear bG hrl0 he bJ;cases h1:BR 0 ((r:Int)-1) y
 ·have Hr:=Z (show Q8 r c y x=false from by simp[Q8,h1]);have H1:=Z h1;clear h1;go_enter Tryz.func94,Tryz.ntmps94;go_wp2_with (fail);refine(AP _ _ _ Hv.o).mono ?_;rintro e w' ⟨rfl,rfl⟩;rw[aS.o];go_wp2_with (fail);refine(B6 _ _ _ _).mono ?_;rintro e w' ⟨rfl,rfl⟩;rw[H1.o];go_wp2
  go_ret
  exact⟨AI Hr.o.symm,rfl⟩
 ·have Hr:=Z (show BR 0 ((c:Int)-1) x=Q8 r c y x from by simp[Q8,h1]);have H1:=Z h1;clear h1;go_enter Tryz.func94,Tryz.ntmps94;go_wp2_with (fail);refine(AP _ _ _ Hv.o).mono ?_;rintro e w' ⟨rfl,rfl⟩;rw[aS.o];go_wp2_with (fail);refine(B6 _ _ _ _).mono ?_;rintro e w' ⟨rfl,rfl⟩;rw[H1.o];go_wp2_with (fail);refine(B6 _ _ _ _).mono ?_;rintro e w' ⟨rfl,rfl⟩;go_wp2
  go_ret
  exact⟨AI Hr.o,rfl⟩
theorem Dj(v:Value)(m:List (List Int))(r c:Nat)(y x:Int)(w:World)(hv:Ak w v m)(hs:Ac r c m)(hr1:1≤r)(hr5:r≤5)(hc1:1≤c)(hc5:c≤5):Calls Tryz.prog 210 #[v,.int .i64 y,.int .i64 x] w fun e w'=>e=.returned (.bool (Q8 r c y x))∧w=w':=by
 have Hv:=Z hv;have aS:=Z (hs.ok hr1 hr5 hc1 hc5);have bJ:=hs.1;obtain⟨fX,bG,hrl0,-⟩:=hs.row (y:=0) (by omega);obtain⟨a,cap0,rfl,-⟩:=hv;obtain⟨b,off,cpr,he,hb,-⟩:=Hv.o.inv_ne (by omega);obtain⟨rfl,-⟩:a=some ⟨b,off,none⟩∧cap0=cpr:=by simpa using he
 obtain⟨u0,hck0,eL⟩:=Sl.at Hv.o bG;obtain⟨a0,cp0,rfl,-⟩:=eL;rw[hrl0,Nat.add_zero] at hck0;rw[bJ] at Hv⊢;clear bG hrl0 he bJ;cases h1:BR 0 ((r:Int)-1) y
 ·have Hr:=Z (show Q8 r c y x=false from by simp[Q8,h1]);have H1:=Z h1;clear h1;go_enter Tryz.func210,Tryz.ntmps210;go_wp2_with (fail);refine(AU _ _ _ Hv.o).mono ?_;rintro e w' ⟨rfl,rfl⟩;rw[aS.o];go_wp2_with (fail);refine(AR _ _ _ _).mono ?_;rintro e w' ⟨rfl,rfl⟩;rw[H1.o];go_wp2
  go_ret
  exact⟨AI Hr.o.symm,rfl⟩
 ·have Hr:=Z (show BR 0 ((c:Int)-1) x=Q8 r c y x from by simp[Q8,h1]);have H1:=Z h1;clear h1;go_enter Tryz.func210,Tryz.ntmps210;go_wp2_with (fail);refine(AU _ _ _ Hv.o).mono ?_;rintro e w' ⟨rfl,rfl⟩;rw[aS.o];go_wp2_with (fail);refine(AR _ _ _ _).mono ?_;rintro e w' ⟨rfl,rfl⟩;rw[H1.o];go_wp2_with (fail);refine(AR _ _ _ _).mono ?_;rintro e w' ⟨rfl,rfl⟩;go_wp2
  go_ret
  exact⟨AI Hr.o,rfl⟩
theorem Ak.cells{w:World}{v:Value}{m:List (List Int)}{r c:Nat}(h:Ak w v m)(hs:Ac r c m)(hr:1≤r)(hc:1≤c):∃b off cp,v=.slice (some ⟨b,off,none⟩) r cp∧b<w.heap.size∧
  ∀y,y<r→∃br offr cpr,w.cell? ⟨b,off+y,none⟩=some (.slice (some ⟨br,offr,none⟩) c cpr)∧br<w.heap.size∧∀x,x<c→w.cell? ⟨br,offr+x,none⟩=some (.int .i64 (Al m y x)):=by
 have bJ:=hs.1;obtain⟨b,off,cp,rfl,hb,-⟩:=h.inv_ne (by omega);refine⟨b,off,cp,by rw[bJ],hb,fun y hy=>?_⟩;obtain⟨row,aG,aw,eG⟩:=hs.row hy;obtain⟨u,aQ,hu⟩:=Sl.at h aG;have hu:Ab w u row:=hu;obtain⟨br,offr,cpr,rfl,dL,-⟩:=hu.inv_ne (by omega);refine⟨br,offr,cpr,by rw[aQ,aw],dL,fun x hx=>?_⟩;obtain⟨z,hz⟩:∃z,row[x]? =some z:=⟨_,List.getElem?_eq_getElem (by omega)⟩;rw[Ab.at hu hz];have:Al m y x=z:=by
  unfold Al;rw[List.getD_eq_getElem?_getD,List.getD_eq_getElem?_getD,aG];simp[hz]
 rw[this]
def D0(r c:Nat)(m:List (List Int))(y1 y2 x1 x2:Int):Bool:=Q8 r c y1 x1&&(Q8 r c y2 x2&&decide (CB r c m (y1.toNat,y2.toNat,x1.toNat,x2.toNat)))
theorem Fs{r c:Nat}{y x:Int}:Q8 r c y x=true↔0≤y∧y<r∧0≤x∧x<c:=by
 unfold Q8;rw[Bool.and_eq_true,AT,AT];omega
theorem Ps{r c:Nat}{m:List (List Int)}{s:Sw}:D0 r c m s.y1 s.y2 s.x1 s.x2=decide (CB r c m s):=by
 unfold D0;by_cases h:CB r c m s
 ·have h':=h;obtain⟨h1,h2,h3,h4,-⟩:=h';rw[Fs.2 (by omega),Fs.2 (by omega)];simp
 ·simp[h]
abbrev SwV(y1 y2 x1 x2:Int):Value:=.agg #[.int .i64 y1,.int .i64 y2,.int .i64 x1,.int .i64 x2]
theorem Ni(v:Value)(m:List (List Int))(r c:Nat)(y1 y2 x1 x2:Int)(w:World)(hv:Ak w v m)(hs:Ac r c m)(hr1:1≤r)(hr5:r≤5)(hc1:1≤c)(hc5:c≤5):Calls Tryz.prog 93 #[v,SwV y1 y2 x1 x2] w fun e w'=>e=.returned (.bool (D0 r c m y1 y2 x1 x2))∧Below w.heap.size w w':=by
 obtain⟨b,off,cp,rfl,hb,az⟩:=hv.cells hs hr1 hc1;have Hv:=Z hv;have aA:=Below.pureAlloc w (.cells #[.int .i64 y1,.int .i64 y2,.int .i64 x1,.int .i64 x2] 65);have dN:=Z (hv.keep aA);cases h1:Q8 r c y1 x1
 ·have Hr:=Z (show D0 r c m y1 y2 x1 x2=false from by simp[D0,h1]);have H1:=Z h1;clear h1 az;go_enter Tryz.func93,Tryz.ntmps93;go_wp2_with (fail);refine(Cq _ _ _ _ _ _ _ dN.o hs hr1 hr5 hc1 hc5).mono ?_;rintro e w' ⟨rfl,rfl⟩;rw[H1.o];go_wp2
  go_ret
  exact⟨AI Hr.o.symm,aA⟩
 cases h2:Q8 r c y2 x2
 ·have Hr:=Z (show D0 r c m y1 y2 x1 x2=false from by simp[D0,h2]);have H1:=Z h1;clear h1 az;have H2:=Z h2;clear h2;go_enter Tryz.func93,Tryz.ntmps93;go_wp2_with (fail);refine(Cq _ _ _ _ _ _ _ dN.o hs hr1 hr5 hc1 hc5).mono ?_;rintro e w' ⟨rfl,rfl⟩;rw[H1.o];go_wp2_with (fail);refine(Cq _ _ _ _ _ _ _ dN.o hs hr1 hr5 hc1 hc5).mono ?_;rintro e w' ⟨rfl,rfl⟩;rw[H2.o];go_wp2
  go_ret
  exact⟨AI Hr.o.symm,aA⟩
 have mJ:=Fs.1 h1;have nX:=Fs.1 h2;obtain⟨Y1,rfl⟩:∃n:Nat,y1=n:=⟨y1.toNat,by omega⟩;obtain⟨X1,rfl⟩:∃n:Nat,x1=n:=⟨x1.toNat,by omega⟩;obtain⟨Y2,rfl⟩:∃n:Nat,y2=n:=⟨y2.toNat,by omega⟩;obtain⟨X2,rfl⟩:∃n:Nat,x2=n:=⟨x2.toNat,by omega⟩;have Hr:=Z (show D0 r c m Y1 Y2 X1 X2=decide (CB r c m (Y1,Y2,X1,X2)) from by simp[D0,h1,h2]);have H1:=Z h1;clear h1;have H2:=Z h2;clear h2;obtain⟨b1,o1,c1,hr1c,dU,cM⟩:=az Y1 (by omega);obtain⟨b2,o2,c2,hr2c,au,hx2⟩:=az Y2 (by omega);obtain⟨zR,e12,e21,e22⟩:w.cell? ⟨b1,o1+X1,none⟩=some (.int .i64 (Al m Y1 X1))∧w.cell? ⟨b1,o1+X2,none⟩=some (.int .i64 (Al m Y1 X2))∧w.cell? ⟨b2,o2+X1,none⟩=some (.int .i64 (Al m Y2 X1))∧w.cell? ⟨b2,o2+X2,none⟩=some (.int .i64 (Al m Y2 X2)):=⟨cM _ (by omega),cM _ (by omega),hx2 _ (by omega),hx2 _ (by omega)⟩;have zS:Y1<r:=by omega
 have rH:Y2<r:=by omega
 have zT:X1<c:=by omega
 have rI:X2<c:=by omega
 clear az cM hx2 mJ nX;have Hw:=Z aA;by_cases hy:Y1<Y2
 ·by_cases hx:X1<X2
  ·have jg:decide ((Y2:Int)≤Y1)=false:=by simp;omega
   have mA:decide ((X2:Int)≤X1)=false:=by simp;omega
   have eJ:=Z (show decide (CB r c m (Y1,Y2,X1,X2))=decide (Al m Y1 X1=Al m Y2 X2∧Al m Y1 X2=Al m Y2 X1∧Al m Y1 X1≠Al m Y1 X2) from by simp[CB,Sw.y1,Sw.y2,Sw.x1,Sw.x2,hy,hx,rH,rI]);obtain⟨p,hp⟩:∃p,Al m Y1 X1=p:=⟨_,rfl⟩;obtain⟨q,hq⟩:∃q,Al m Y1 X2=q:=⟨_,rfl⟩;obtain⟨s,dj⟩:∃s,Al m Y2 X1=s:=⟨_,rfl⟩;obtain⟨t,ht⟩:∃t,Al m Y2 X2=t:=⟨_,rfl⟩;rw[hp] at zR eJ;rw[hq] at e12 eJ;rw[dj] at e21 eJ;rw[ht] at e22 eJ;clear hp hq dj ht;by_cases h1:p=t
   rotate_left
   ·have zU:(p==t)=false:=by simpa using h1
    have gY:=Z (show false=D0 r c m Y1 Y2 X1 X2 from by rw[Hr.o,eJ.o];simp[h1]);clear h1;go_enter Tryz.func93,Tryz.ntmps93;go_wp2_with (fail);refine(Cq _ _ _ _ _ _ _ dN.o hs hr1 hr5 hc1 hc5).mono ?_;rintro e w' ⟨rfl,rfl⟩;rw[H1.o];go_wp2_with (fail);refine(Cq _ _ _ _ _ _ _ dN.o hs hr1 hr5 hc1 hc5).mono ?_;rintro e w' ⟨rfl,rfl⟩;rw[H2.o];go_wp2
    all_goals try(exfalso;omega)
    go_quiet (fail);go_wp2
    go_ret
    exact⟨AI gY.o,below_drewN aA _⟩
   subst h1;by_cases h2:q=s
   rotate_left
   ·have uL:(q==s)=false:=by simpa using h2
    have gY:=Z (show false=D0 r c m Y1 Y2 X1 X2 from by rw[Hr.o,eJ.o];simp[h2]);clear h2;go_enter Tryz.func93,Tryz.ntmps93;go_wp2_with (fail);refine(Cq _ _ _ _ _ _ _ dN.o hs hr1 hr5 hc1 hc5).mono ?_;rintro e w' ⟨rfl,rfl⟩;rw[H1.o];go_wp2_with (fail);refine(Cq _ _ _ _ _ _ _ dN.o hs hr1 hr5 hc1 hc5).mono ?_;rintro e w' ⟨rfl,rfl⟩;rw[H2.o];go_wp2
    all_goals try(exfalso;omega)
    go_quiet (fail);go_wp2
    go_ret
    exact⟨AI gY.o,below_drewN aA _⟩
   subst h2;by_cases h3:p=q
   ·subst h3;have gY:=Z (show false=D0 r c m Y1 Y2 X1 X2 from by rw[Hr.o,eJ.o];simp);go_enter Tryz.func93,Tryz.ntmps93;go_wp2_with (fail);refine(Cq _ _ _ _ _ _ _ dN.o hs hr1 hr5 hc1 hc5).mono ?_;rintro e w' ⟨rfl,rfl⟩;rw[H1.o];go_wp2_with (fail);refine(Cq _ _ _ _ _ _ _ dN.o hs hr1 hr5 hc1 hc5).mono ?_;rintro e w' ⟨rfl,rfl⟩;rw[H2.o];go_wp2
    all_goals try(exfalso;omega)
    go_quiet (fail);go_wp2
    go_ret
    exact⟨AI gY.o,below_drewN aA _⟩
   ·have uM:(p==q)=false:=by simpa using h3
    have gY:=Z (show(p !=q)=D0 r c m Y1 Y2 X1 X2 from by rw[Hr.o,eJ.o];simp[h3]);clear h3;go_enter Tryz.func93,Tryz.ntmps93;go_wp2_with (fail);refine(Cq _ _ _ _ _ _ _ dN.o hs hr1 hr5 hc1 hc5).mono ?_;rintro e w' ⟨rfl,rfl⟩;rw[H1.o];go_wp2_with (fail);refine(Cq _ _ _ _ _ _ _ dN.o hs hr1 hr5 hc1 hc5).mono ?_;rintro e w' ⟨rfl,rfl⟩;rw[H2.o];go_wp2
    all_goals try(exfalso;omega)
    go_quiet (fail);go_wp2
    go_ret
    exact⟨AI gY.o,below_drewN aA _⟩
  ·have jg:decide (Y2≤Y1)=false:=by simp;omega
   have mA:decide (X2≤X1)=true:=by simp;omega
   have gY:=Z (show false=D0 r c m Y1 Y2 X1 X2 from by rw[Hr.o];simp[CB,Sw.x1,Sw.x2,hx]);go_enter Tryz.func93,Tryz.ntmps93;go_wp2_with (fail);refine(Cq _ _ _ _ _ _ _ dN.o hs hr1 hr5 hc1 hc5).mono ?_;rintro e w' ⟨rfl,rfl⟩;rw[H1.o];go_wp2_with (fail);refine(Cq _ _ _ _ _ _ _ dN.o hs hr1 hr5 hc1 hc5).mono ?_;rintro e w' ⟨rfl,rfl⟩;rw[H2.o];go_wp2
   go_ret
   exact⟨AI gY.o,aA⟩
 ·have jg:decide (Y2≤Y1)=true:=by simp;omega
  have gY:=Z (show false=D0 r c m Y1 Y2 X1 X2 from by rw[Hr.o];simp[CB,Sw.y1,Sw.y2,hy]);go_enter Tryz.func93,Tryz.ntmps93;go_wp2_with (fail);refine(Cq _ _ _ _ _ _ _ dN.o hs hr1 hr5 hc1 hc5).mono ?_;rintro e w' ⟨rfl,rfl⟩;rw[H1.o];go_wp2_with (fail);refine(Cq _ _ _ _ _ _ _ dN.o hs hr1 hr5 hc1 hc5).mono ?_;rintro e w' ⟨rfl,rfl⟩;rw[H2.o];go_wp2
  go_ret
  exact⟨AI gY.o,aA⟩
theorem SE(v:Value)(m:List (List Int))(r c:Nat)(y1 y2 x1 x2:Int)(w:World)(hv:Ak w v m)(hs:Ac r c m)(hr1:1≤r)(hr5:r≤5)(hc1:1≤c)(hc5:c≤5):Calls Tryz.prog 208 #[v,SwV y1 y2 x1 x2] w fun e w'=>e=.returned (.bool (D0 r c m y1 y2 x1 x2))∧Below w.heap.size w w':=by
 obtain⟨b,off,cp,rfl,hb,az⟩:=hv.cells hs hr1 hc1;have Hv:=Z hv;have aA:=Below.pureAlloc w (.cells #[.int .i64 y1,.int .i64 y2,.int .i64 x1,.int .i64 x2] 65);have dN:=Z (hv.keep aA);cases h1:Q8 r c y1 x1
 ·have Hr:=Z (show D0 r c m y1 y2 x1 x2=false from by simp[D0,h1]);have H1:=Z h1;clear h1 az;go_enter Tryz.func208,Tryz.ntmps208;go_wp2_with (fail);refine(Dj _ _ _ _ _ _ _ dN.o hs hr1 hr5 hc1 hc5).mono ?_;rintro e w' ⟨rfl,rfl⟩;rw[H1.o];go_wp2
  go_ret
  exact⟨AI Hr.o.symm,aA⟩
 cases h2:Q8 r c y2 x2
 ·have Hr:=Z (show D0 r c m y1 y2 x1 x2=false from by simp[D0,h2]);have H1:=Z h1;clear h1 az;have H2:=Z h2;clear h2;go_enter Tryz.func208,Tryz.ntmps208;go_wp2_with (fail);refine(Dj _ _ _ _ _ _ _ dN.o hs hr1 hr5 hc1 hc5).mono ?_;rintro e w' ⟨rfl,rfl⟩;rw[H1.o];go_wp2_with (fail);refine(Dj _ _ _ _ _ _ _ dN.o hs hr1 hr5 hc1 hc5).mono ?_;rintro e w' ⟨rfl,rfl⟩;rw[H2.o];go_wp2
  go_ret
  exact⟨AI Hr.o.symm,aA⟩
 have mJ:=Fs.1 h1;have nX:=Fs.1 h2;obtain⟨Y1,rfl⟩:∃n:Nat,y1=n:=⟨y1.toNat,by omega⟩;obtain⟨X1,rfl⟩:∃n:Nat,x1=n:=⟨x1.toNat,by omega⟩;obtain⟨Y2,rfl⟩:∃n:Nat,y2=n:=⟨y2.toNat,by omega⟩;obtain⟨X2,rfl⟩:∃n:Nat,x2=n:=⟨x2.toNat,by omega⟩;have Hr:=Z (show D0 r c m Y1 Y2 X1 X2=decide (CB r c m (Y1,Y2,X1,X2)) from by simp[D0,h1,h2]);have H1:=Z h1;clear h1;have H2:=Z h2;clear h2;obtain⟨b1,o1,c1,hr1c,dU,cM⟩:=az Y1 (by omega);obtain⟨b2,o2,c2,hr2c,au,hx2⟩:=az Y2 (by omega);obtain⟨zR,e12,e21,e22⟩:w.cell? ⟨b1,o1+X1,none⟩=some (.int .i64 (Al m Y1 X1))∧w.cell? ⟨b1,o1+X2,none⟩=some (.int .i64 (Al m Y1 X2))∧w.cell? ⟨b2,o2+X1,none⟩=some (.int .i64 (Al m Y2 X1))∧w.cell? ⟨b2,o2+X2,none⟩=some (.int .i64 (Al m Y2 X2)):=⟨cM _ (by omega),cM _ (by omega),hx2 _ (by omega),hx2 _ (by omega)⟩;have zS:Y1<r:=by omega
 have rH:Y2<r:=by omega
 have zT:X1<c:=by omega
 have rI:X2<c:=by omega
 clear az cM hx2 mJ nX;have Hw:=Z aA;by_cases hy:Y1<Y2
 ·by_cases hx:X1<X2
  ·have jg:decide ((Y2:Int)≤Y1)=false:=by simp;omega
   have mA:decide ((X2:Int)≤X1)=false:=by simp;omega
   have hbp:=AE hs Y1 X1;have hbq:=AE hs Y1 X2;have iG:=AE hs Y2 X1;have eJ:=Z (show decide (CB r c m (Y1,Y2,X1,X2))=decide (Al m Y2 X2=Al m Y1 X1∧Al m Y1 X2=1-Al m Y1 X1∧Al m Y2 X1=1-Al m Y1 X1) from by
    simp only[CB,Sw.y1,Sw.y2,Sw.x1,Sw.x2,hy,hx,rH,rI,true_and];exact decide_eq_decide.2 ⟨fun h=>by omega,fun h=>by omega⟩)
   obtain⟨p,hp⟩:∃p,Al m Y1 X1=p:=⟨_,rfl⟩;obtain⟨q,hq⟩:∃q,Al m Y1 X2=q:=⟨_,rfl⟩;obtain⟨s,dj⟩:∃s,Al m Y2 X1=s:=⟨_,rfl⟩;obtain⟨t,ht⟩:∃t,Al m Y2 X2=t:=⟨_,rfl⟩;rw[hp] at zR eJ hbp;rw[hq] at e12 eJ;rw[dj] at e21 eJ;rw[ht] at e22 eJ;clear hp hq dj ht hbq iG;by_cases h1:t=p
   rotate_left
   ·have zU:(t==p)=false:=by simpa using h1
    have gY:=Z (show false=D0 r c m Y1 Y2 X1 X2 from by rw[Hr.o,eJ.o];simp[h1]);clear h1;go_enter Tryz.func208,Tryz.ntmps208;go_wp2_with (fail);refine(Dj _ _ _ _ _ _ _ dN.o hs hr1 hr5 hc1 hc5).mono ?_;rintro e w' ⟨rfl,rfl⟩;rw[H1.o];go_wp2_with (fail);refine(Dj _ _ _ _ _ _ _ dN.o hs hr1 hr5 hc1 hc5).mono ?_;rintro e w' ⟨rfl,rfl⟩;rw[H2.o];go_wp2
    all_goals try(exfalso;omega)
    go_quiet (fail);go_wp2
    all_goals try(exfalso;omega)
    go_quiet (fail);go_wp2
    go_ret
    exact⟨AI gY.o,below_drewN (below_drewN aA _) _⟩
   subst h1;by_cases h2:q=1-t
   rotate_left
   ·have uL:(q==1-t)=false:=by simpa using h2
    have gY:=Z (show false=D0 r c m Y1 Y2 X1 X2 from by rw[Hr.o,eJ.o];simp[h2]);clear h2;go_enter Tryz.func208,Tryz.ntmps208;go_wp2_with (fail);refine(Dj _ _ _ _ _ _ _ dN.o hs hr1 hr5 hc1 hc5).mono ?_;rintro e w' ⟨rfl,rfl⟩;rw[H1.o];go_wp2_with (fail);refine(Dj _ _ _ _ _ _ _ dN.o hs hr1 hr5 hc1 hc5).mono ?_;rintro e w' ⟨rfl,rfl⟩;rw[H2.o];go_wp2
    all_goals try(exfalso;omega)
    go_quiet (fail);go_wp2
    all_goals try(exfalso;omega)
    go_quiet (fail);go_wp2
    go_ret
    exact⟨AI gY.o,below_drewN (below_drewN aA _) _⟩
   have uL:(q==1-t)=true:=by simpa using h2
   by_cases h3:s=1-t
   ·have uM:(s==1-t)=true:=by simpa using h3
    have gY:=Z (show true=D0 r c m Y1 Y2 X1 X2 from by rw[Hr.o,eJ.o];simp[h2,h3]);clear h2 h3;go_enter Tryz.func208,Tryz.ntmps208;go_wp2_with (fail);refine(Dj _ _ _ _ _ _ _ dN.o hs hr1 hr5 hc1 hc5).mono ?_;rintro e w' ⟨rfl,rfl⟩;rw[H1.o];go_wp2_with (fail);refine(Dj _ _ _ _ _ _ _ dN.o hs hr1 hr5 hc1 hc5).mono ?_;rintro e w' ⟨rfl,rfl⟩;rw[H2.o];go_wp2
    all_goals try(exfalso;omega)
    go_quiet (fail);go_wp2
    all_goals try(exfalso;omega)
    go_quiet (fail);go_wp2
    go_ret
    exact⟨AI gY.o,below_drewN (below_drewN aA _) _⟩
   ·have uM:(s==1-t)=false:=by simpa using h3
    have gY:=Z (show false=D0 r c m Y1 Y2 X1 X2 from by rw[Hr.o,eJ.o];simp[h3]);clear h2 h3;go_enter Tryz.func208,Tryz.ntmps208;go_wp2_with (fail);refine(Dj _ _ _ _ _ _ _ dN.o hs hr1 hr5 hc1 hc5).mono ?_;rintro e w' ⟨rfl,rfl⟩;rw[H1.o];go_wp2_with (fail);refine(Dj _ _ _ _ _ _ _ dN.o hs hr1 hr5 hc1 hc5).mono ?_;rintro e w' ⟨rfl,rfl⟩;rw[H2.o];go_wp2
    all_goals try(exfalso;omega)
    go_quiet (fail);go_wp2
    all_goals try(exfalso;omega)
    go_quiet (fail);go_wp2
    go_ret
    exact⟨AI gY.o,below_drewN (below_drewN aA _) _⟩
  ·have jg:decide (Y2≤Y1)=false:=by simp;omega
   have mA:decide (X2≤X1)=true:=by simp;omega
   have gY:=Z (show false=D0 r c m Y1 Y2 X1 X2 from by rw[Hr.o];simp[CB,Sw.x1,Sw.x2,hx]);go_enter Tryz.func208,Tryz.ntmps208;go_wp2_with (fail);refine(Dj _ _ _ _ _ _ _ dN.o hs hr1 hr5 hc1 hc5).mono ?_;rintro e w' ⟨rfl,rfl⟩;rw[H1.o];go_wp2_with (fail);refine(Dj _ _ _ _ _ _ _ dN.o hs hr1 hr5 hc1 hc5).mono ?_;rintro e w' ⟨rfl,rfl⟩;rw[H2.o];go_wp2
   go_ret
   exact⟨AI gY.o,aA⟩
 ·have jg:decide (Y2≤Y1)=true:=by simp;omega
  have gY:=Z (show false=D0 r c m Y1 Y2 X1 X2 from by rw[Hr.o];simp[CB,Sw.y1,Sw.y2,hy]);go_enter Tryz.func208,Tryz.ntmps208;go_wp2_with (fail);refine(Dj _ _ _ _ _ _ _ dN.o hs hr1 hr5 hc1 hc5).mono ?_;rintro e w' ⟨rfl,rfl⟩;rw[H1.o];go_wp2_with (fail);refine(Dj _ _ _ _ _ _ _ dN.o hs hr1 hr5 hc1 hc5).mono ?_;rintro e w' ⟨rfl,rfl⟩;rw[H2.o];go_wp2
  go_ret
  exact⟨AI gY.o,aA⟩
def FT(s:Sw):List Value:=[.int .i64 s.1,.int .i64 s.2.1,.int .i64 s.2.2.1,.int .i64 s.2.2.2]
def Lj(l:List Sw):List Value:=l.flatMap FT
theorem R8:∀l,(Lj l).length=l.length*4
 |[]=>rfl
 |s::l=>by
  have:=R8 l;unfold Lj at this⊢;rw[List.flatMap_cons,List.length_append,this,List.length_cons];simp[FT];omega
theorem Q7(l k:List Sw):Lj (l++k)=Lj l++Lj k:=by unfold Lj;exact List.flatMap_append
theorem QN:∀{l:List Sw}{k:Nat}{s:Sw},l[k]? =some s→∀j,j<4→(Lj l)[k*4+j]? =(FT s)[j]?
 |[],k,s,h,_,_=>by simp at h
 |t::l,0,s,h,j,hj=>by
  simp at h;subst h;unfold Lj;rw[List.flatMap_cons,List.getElem?_append_left (by simp[FT];omega)];simp
 |t::l,k+1,s,h,j,hj=>by
  have h':l[k]? =some s:=by simpa using h
  have:=QN h' j hj;unfold Lj at this⊢;rw[List.flatMap_cons,List.getElem?_append_right (by simp[FT];omega),←this]
  congr 1
  simp[FT];omega
def Co(B:Nat)(w:World)(v:Value)(l:List Sw):Prop:=w.ownsRow B 65 4 v l.length (Lj l)
theorem Co.lt{B:Nat}{w:World}{v:Value}{l:List Sw}(h:Co B w v l):∀g,v.ownBlock=some g→B≤g∧g<w.heap.size:=World.ownsRow.lt h
theorem Co.nil(B:Nat)(w:World):Co B w (.slice none 0 0) []:=World.ownsRow_nil _ _ _ _
theorem Co.lit0(w:World)(B:Nat)(h:B≤w.heap.size):Co B (w.alloc (.cells #[] 65)) (.slice (some ⟨w.heap.size,0,none⟩) 0 0) []:=
 ⟨rfl,.inr ⟨w.heap.size,0,#[],rfl,h,heap_alloc_new w _,by simp,by simp,by simp,by simp[Lj]⟩⟩
theorem Co.same{B:Nat}{w w':World}{v:Value}{l:List Sw}(h:Co B w v l)(hs:∀b,B≤b→b<w.heap.size→w'.heap[b]? =w.heap[b]?):Co B w' v l:=by
 have aH:=h.lt;refine⟨h.1,?_⟩;rcases h.2 with h1|⟨g,cap,cur,rfl,h1,h2,h3⟩
 ·exact .inl h1
 ·exact .inr ⟨g,cap,cur,rfl,h1,(hs g h1 (aH g rfl).2).trans h2,h3⟩
theorem Co.low{B B':Nat}{w:World}{v:Value}{l:List Sw}(h:Co B w v l)(hb:B'≤B):Co B' w v l:=by
 refine⟨h.1,?_⟩;rcases h.2 with h1|⟨g,cap,cur,rfl,h1,h2,h3⟩
 ·exact .inl h1
 ·exact .inr ⟨g,cap,cur,rfl,Nat.le_trans hb h1,h2,h3⟩
theorem Co.keep{B:Nat}{w w':World}{v:Value}{l:List Sw}(h:Co B w v l)(hb:Below w.heap.size w w'):Co B w' v l:=h.same fun b _ h2=>hb.block b h2
theorem Co.only{B:Nat}{T:Bk}{w w':World}{v:Value}{l:List Sw}(h:Co B w v l)(ho:Ar T w w')(hd:∀b,B≤b→b<w.heap.size→¬T b):Co B w' v l:=h.same fun b h1 h2=>ho.block b h2 (hd b h1 h2)
theorem Co.shape{B:Nat}{w:World}{v:Value}{l:List Sw}(h:Co B w v l):∃a cap,v=.slice a l.length cap:=by
 rcases h.2 with⟨rfl,h1⟩|⟨g,cap,cur,rfl,-⟩
 ·exact⟨none,0,by rw[h1]⟩
 ·exact⟨_,_,rfl⟩
theorem Co.at{B:Nat}{w:World}{v:Value}{l:List Sw}(h:Co B w v l)(aO:0<l.length):∃g cap,v=.slice (some ⟨g,0,none⟩) l.length cap∧B≤g∧g<w.heap.size∧l.length≤cap∧∀k s,l[k]? =some s→∀j u,(FT s)[j]? =some u→w.cell? ⟨g,k*4+j,none⟩=some u:=by
 have aH:=h.lt;have h1:=h;rcases h.2 with⟨_,h0⟩|⟨g,cap,cur,rfl,hb,hh,h2,-⟩
 ·omega
 ·refine⟨g,cap,rfl,hb,(aH g rfl).2,h2,fun k s hk j u hj=>?_⟩;have zQ:j<4:=by have:=(List.getElem?_eq_some_iff.1 hj).1;simpa[FT] using this
  have ah:=(List.getElem?_eq_some_iff.1 hk).1;rw[World.ownsRow.cellAt h1 _ (by omega),QN hk j zQ,hj]
theorem KM{P:Program}{w:World}{ei:Array Oper}{rest:List Oper}{o:Oper}{a:Act}{Q:Exit→Act→World→Prop}(ie:o.guard=none)(s xo:Operand)(t:TypeId)
  (ho:o.op=.call {callee:=.builtin .append,args:=#[s,xo],argTypes:=#[t,t]})
  {z:Value}{bytes:Nat}(ht:P.underlying t=some (.slice 65))(cW:(P.info? 65).map (fun i=>(i.zero,i.size,i.bytes))=some (some z,4,bytes))(eZ:z.cells.size=4)(dP:bytes≤64)
  (B:Nat){v:Value}{l:List Sw}(x:Sw){gb c:Nat}(hs:a.eval s=v)(hx:a.eval xo=.slice (some ⟨gb,0,none⟩) 1 c)(bN:w.heap[gb]? =some (.cells (FT x).toArray 65 (0,0)))(aB:Co B w v l)(aP:l.length<1073741824)(hB:B≤w.heap.size)
  (h:∀v' w',Co B w' v' (l++[x])→Ar (fun b=>v.ownBlock=some b) w w'→wpList P ei Q rest (a.put o.dst v') w'):
  wpList P ei Q (o::rest) a w:=by
 obtain⟨i,hi,hz,af,eM⟩:=info_parts cW;have cT:∀j u,(FT x)[j]? =some u→w.cell? ((⟨gb,0,none⟩:Addr).add j)=some u:=by
  intro j u hj;have:(⟨gb,0,none⟩:Addr).add j=⟨gb,j,none⟩:=by simp only[Addr.add,Nat.zero_add];split<;>simp_all
  rw[this,cell_of_row w gb j _ _ (0,0) bN];simpa using hj
 refine wpList_append_own (P:=P) w ie s xo t ho B 65 i z 4 bytes ht hi hz af eM eZ (by decide) v l.length (Lj l) hs aB ⟨gb,0,none⟩ 1 c (FT x) hx rfl cT (by intro u hu;simp[FT] at hu;rcases hu with rfl|rfl|rfl|rfl<;>rfl)
  (by simp[maxLen];omega) (by have:(l.length+1)*bytes≤1073741824*64:=Nat.mul_le_mul (by omega) dP
                              omega) hB ?_
 intro v' w' h1 h2 _;exact h v' w' (by unfold Co;rw[Q7];simpa[Lj] using h1) ⟨h2.os,h2.tape,h2.output,h2.size,fun b hb hn=>h2.block b hb (fun e=>hn e.symm)⟩
theorem JA:(Tryz.prog.info? 65).map (fun i=>(i.zero,i.size,i.bytes))=some (some (.agg #[.int .i64 0,.int .i64 0,.int .i64 0,.int .i64 0]),4,32):=by kernel_rfl
structure Ll(n:Nat)(w wr:World)(out:Value)(l:List Sw)(N:Nat):Prop where
 own:Co n wr out l
 bel:Below n w wr
 len:l.length≤N
theorem Ll.le{n N N':Nat}{w wr:World}{out:Value}{l:List Sw}(h:Ll n w wr out l N)(hn:N≤N'):Ll n w wr out l N':=⟨h.own,h.bel,Nat.le_trans h.len hn⟩
theorem Ll.keep{n N:Nat}{w wr wr':World}{out:Value}{l:List Sw}(h:Ll n w wr out l N)(hb:Below wr.heap.size wr wr')(hn:n≤w.heap.size):Ll n w wr' out l N:=⟨h.own.keep hb,h.bel.trans_pure hb hn,h.len⟩
theorem KN(v:Value)(m:List (List Int))(r c:Nat)(w:World)(hv:Ak w v m)(hs:Ac r c m)(hr1:1≤r)(hr5:r≤5)(hc1:1≤c)(hc5:c≤5):Calls Tryz.prog 162 #[v] w fun e w'=>∃v',e=.returned v'∧Co w.heap.size w' v' (AX r c m)∧Below w.heap.size w w':=by
 obtain⟨b,off,cp,rfl,hb,az⟩:=hv.cells hs hr1 hc1;have Hv:=Z hv;have aS:=Z (hs.ok hr1 hr5 hc1 hc5);obtain⟨b0,o0,c0,cF,aX,-⟩:=az 0 (by omega);rw[Nat.add_zero] at cF;clear az;have St:=Z (Ll.mk (n:=w.heap.size) (N:=0) (Co.nil w.heap.size w) (Below.refl _ _) (Nat.le_refl _));go_enter Tryz.func162,Tryz.ntmps162;go_wp2_with (fail);refine(AP _ _ _ Hv.o).mono ?_;rintro e w' ⟨rfl,rfl⟩;rw[aS.o];go_wp2;go_loopw [3,4,5,6,7,8,14] (fun out _ _ _ _ _ i wr=>∃a:Nat,a≤r∧i=.int .i64 a∧Hid (Ll w.heap.size w wr out (ZQ r c m a) (125*a))) (fun _ _ _ _ _ _ i _=>r-(intOf i).toNat)
 case atStart=>exact⟨0,Nat.zero_le _,rfl,St⟩
 case round=>
  clear St;obtain⟨a,ha,rfl,St⟩:=hrel;by_cases aH:a<r
  ·go_wp2;go_loopw [3,5,6,7,8] (fun out i _ _ _ wr=>∃b:Nat,b≤r∧a+1≤b∧i=.int .i64 b∧Hid (Ll w.heap.size w wr out (ZQ r c m a++Zi r c m a b) (125*a+25*b))) (fun _ i _ _ _ _=>r-(intOf i).toNat)
   case atStart=>exact⟨a+1,aH,Nat.le_refl _,by go_num,Z (by rw[Z6,List.append_nil];exact St.o.le (by omega))⟩
   case round=>
    clear St;obtain⟨b',kx,gx,rfl,St⟩:=hrel;by_cases bt:b'<r
    ·have h0:=(St.o.bel.cell (p:=⟨b,off,none⟩) hb).trans cF;go_wp2;clear h0;go_loopw [3,6,7,8,29] (fun out _ _ _ i wr=>∃x:Nat,x≤c∧i=.int .i64 x∧Hid (Ll w.heap.size w wr out (ZQ r c m a++Zi r c m a b'++sw3 r c m a b' x) (125*a+25*b'+5*x))) (fun _ _ _ _ i _=>c-(intOf i).toNat)
     case atStart=>exact⟨0,Nat.zero_le _,rfl,Z (by rw[XL,List.append_nil];exact St.o.le (by omega))⟩
     case round=>
      clear St;obtain⟨x,hx,rfl,St⟩:=hrel;by_cases hlt3:x<c
      ·go_wp2;go_loopw [3,7,8] (fun out i _ wr=>∃y:Nat,y≤c∧x+1≤y∧i=.int .i64 y∧Hid (Ll w.heap.size w wr out (ZQ r c m a++Zi r c m a b'++sw3 r c m a b' x++TO r c m a b' x y) (125*a+25*b'+5*x+y))) (fun _ i _ _=>c-(intOf i).toNat)
       case atStart=>exact⟨x+1,hlt3,Nat.le_refl _,by go_num,Z (by rw[Yq,List.append_nil];exact St.o.le (by omega))⟩
       case round=>
        clear St;obtain⟨y,hy,cf,rfl,St⟩:=hrel;have h0:=(St.o.bel.cell (p:=⟨b,off,none⟩) hb).trans cF;by_cases hlt4:y<c
        ·have iG:=St.o.bel.size;have Hk:=Z (Aw.new wr (FT (a,b',x,y)).toArray 65);have fu:=Z (Below.pureAlloc wr (.cells (FT (a,b',x,y)).toArray 65));go_wp2_with (fail);refine(Ni _ m r c a b' x y _ ((Hv.o.keep St.o.bel).keep fu.o) hs hr1 hr5 hc1 hc5).mono ?_;rintro e w2 ⟨rfl,au⟩;have rJ:Below wr.heap.size wr w2:=fu.o.trans_pure au (Nat.le_refl _);have dT:=Z (Hk.o.keep au);have fB:=Z (St.o.keep rJ (Nat.le_refl _));have k0:w2.cell? ⟨wr.heap.size,0,none⟩=some (.int .i64 a):=dT.o.cell 0;have k1:w2.cell? ⟨wr.heap.size,1,none⟩=some (.int .i64 b'):=dT.o.cell 1;have k2:w2.cell? ⟨wr.heap.size,2,none⟩=some (.int .i64 x):=dT.o.cell 2;have k3:w2.cell? ⟨wr.heap.size,3,none⟩=some (.int .i64 y):=dT.o.cell 3;have jK:D0 r c m a b' x y=decide (CB r c m (a,b',x,y)):=Ps (s:=(a,b',x,y));rw[jK];clear jK Hk dT;by_cases aD:CB r c m (a,b',x,y)
         ·rw[decide_eq_true aD];have aJ:=Z (show TO r c m a b' x (y+1)=TO r c m a b' x y++[(a,b',x,y)] from by rw[OR,if_pos aD]);clear aD;have gZ:=Z (Below.pureAlloc w2 (.cells (FT (a,b',x,y)).toArray 65));have gQ:=Z (Aw.new w2 (FT (a,b',x,y)).toArray 65);have g6:=Z (fB.o.keep gZ.o (Nat.le_refl _));obtain⟨l,hl⟩:∃l,l=ZQ r c m a++Zi r c m a b'++sw3 r c m a b' x++TO r c m a b' x y:=⟨_,rfl⟩;rw[←hl] at g6;have Hl:=Z hl;clear hl fB;obtain⟨ao,co,rfl⟩:=g6.o.own.shape;have aP:=Nat.lt_of_le_of_lt g6.o.len (show _<1073741824 from by omega);have jX:=g6.o.bel.size;go_wp2_with (at_builtin;(refine KM (w:=w2.alloc (.cells (FT (a,b',x,y)).toArray 65)) (v:=.slice ao l.length co) (l:=l) (gb:=w2.heap.size) (c:=1) rfl _ _ 116 rfl Tryz.underlying116 JA rfl (by decide) w.heap.size (a,b',x,y) rfl rfl (by exact gQ.o) (by exact g6.o.own) aP (by exact jX) ?_);intro v4 w4 o4 b4);have oV:=Z (Ll.mk (w:=w) o4 (g6.o.bel.trans (b4.below jX fun g hg=>(g6.o.own.lt g hg).1)) (by rw[List.length_append];exact Nat.succ_le_succ g6.o.len));refine⟨⟨y+1,by omega,by omega,by go_num,Z ?_⟩,by simp[intOf];omega⟩;rw[aJ.o,←List.append_assoc,←Hl.o];exact oV.o
         ·rw[decide_eq_false aD];have aJ:=Z (show TO r c m a b' x (y+1)=TO r c m a b' x y from by rw[OR,if_neg aD,List.append_nil]);clear aD;go_wp2;go_roundw
          case rel=>exact⟨y+1,by omega,by omega,by go_num,Z (by rw[aJ.o];exact fB.o.le (by omega))⟩
          case measure=>simp[intOf];omega
        ·go_wp2;go_roundw
         case rel=>exact⟨x+1,by omega,by go_num,Z (by rw[Ya,←List.append_assoc];obtain rfl:y=c:=(by omega);exact St.o.le (by omega))⟩
         case measure=>simp[intOf];omega
      ·go_wp2;go_roundw
       case rel=>exact⟨b'+1,by omega,by omega,by go_num,Z (by rw[Xp,←List.append_assoc];obtain rfl:x=c:=(by omega);exact St.o.le (by omega))⟩
       case measure=>simp[intOf];omega
    ·go_wp2;go_roundw
     case rel=>exact⟨a+1,by omega,by go_num,Z (by rw[Xh];obtain rfl:b'=r:=(by omega);exact St.o.le (by omega))⟩
     case measure=>simp[intOf];omega
  ·obtain⟨ao,co,rfl⟩:=St.o.own.shape;go_wp2
   go_ret
   obtain rfl:a=r:=by omega
   exact⟨_,rfl,by rw[←A19];exact St.o.own,St.o.bel⟩
theorem O0(v:Value)(m:List (List Int))(r c:Nat)(w:World)(hv:Ak w v m)(hs:Ac r c m)(hr1:1≤r)(hr5:r≤5)(hc1:1≤c)(hc5:c≤5):Calls Tryz.prog 252 #[v] w fun e w'=>∃v',e=.returned v'∧Co w.heap.size w' v' (AX r c m)∧Below w.heap.size w w':=by
 obtain⟨b,off,cp,rfl,hb,az⟩:=hv.cells hs hr1 hc1;have Hv:=Z hv;have aS:=Z (hs.ok hr1 hr5 hc1 hc5);obtain⟨b0,o0,c0,cF,aX,-⟩:=az 0 (by omega);rw[Nat.add_zero] at cF;clear az;have St:=Z (Ll.mk (n:=w.heap.size) (w:=w) (N:=0) (Co.lit0 w w.heap.size (Nat.le_refl _)) (Below.pureAlloc w _) (Nat.le_refl _));go_enter Tryz.func252,Tryz.ntmps252;go_wp2_with (fail);refine(AU _ _ _ Hv.o).mono ?_;rintro e w' ⟨rfl,rfl⟩;rw[aS.o];go_wp2;go_loopw [3,4,5,6,7,8,15] (fun out _ _ _ _ _ i wr=>∃a:Nat,a≤r∧i=.int .i64 a∧Hid (Ll w.heap.size w wr out (ZQ r c m a) (125*a))) (fun _ _ _ _ _ _ i _=>r-(intOf i).toNat)
 case atStart=>exact⟨0,Nat.zero_le _,rfl,St⟩
 case round=>
  clear St;obtain⟨a,ha,rfl,St⟩:=hrel;by_cases aH:a<r
  ·go_wp2;go_loopw [3,5,6,7,8] (fun out i _ _ _ wr=>∃b:Nat,b≤r∧a+1≤b∧i=.int .i64 b∧Hid (Ll w.heap.size w wr out (ZQ r c m a++Zi r c m a b) (125*a+25*b))) (fun _ i _ _ _ _=>r-(intOf i).toNat)
   case atStart=>exact⟨a+1,aH,Nat.le_refl _,by go_num,Z (by rw[Z6,List.append_nil];exact St.o.le (by omega))⟩
   case round=>
    clear St;obtain⟨b',kx,gx,rfl,St⟩:=hrel;by_cases bt:b'<r
    ·have h0:=(St.o.bel.cell (p:=⟨b,off,none⟩) hb).trans cF;go_wp2;clear h0;go_loopw [3,6,7,8,30] (fun out _ _ _ i wr=>∃x:Nat,x≤c∧i=.int .i64 x∧Hid (Ll w.heap.size w wr out (ZQ r c m a++Zi r c m a b'++sw3 r c m a b' x) (125*a+25*b'+5*x))) (fun _ _ _ _ i _=>c-(intOf i).toNat)
     case atStart=>exact⟨0,Nat.zero_le _,rfl,Z (by rw[XL,List.append_nil];exact St.o.le (by omega))⟩
     case round=>
      clear St;obtain⟨x,hx,rfl,St⟩:=hrel;by_cases hlt3:x<c
      ·go_wp2;go_loopw [3,7,8] (fun out i _ wr=>∃y:Nat,y≤c∧x+1≤y∧i=.int .i64 y∧Hid (Ll w.heap.size w wr out (ZQ r c m a++Zi r c m a b'++sw3 r c m a b' x++TO r c m a b' x y) (125*a+25*b'+5*x+y))) (fun _ i _ _=>c-(intOf i).toNat)
       case atStart=>exact⟨x+1,hlt3,Nat.le_refl _,by go_num,Z (by rw[Yq,List.append_nil];exact St.o.le (by omega))⟩
       case round=>
        clear St;obtain⟨y,hy,cf,rfl,St⟩:=hrel;have h0:=(St.o.bel.cell (p:=⟨b,off,none⟩) hb).trans cF;by_cases hlt4:y<c
        ·have iG:=St.o.bel.size;have Hk:=Z (Aw.new wr (FT (a,b',x,y)).toArray 65);have fu:=Z (Below.pureAlloc wr (.cells (FT (a,b',x,y)).toArray 65));go_wp2_with (fail);refine(SE _ m r c a b' x y _ ((Hv.o.keep St.o.bel).keep fu.o) hs hr1 hr5 hc1 hc5).mono ?_;rintro e w2 ⟨rfl,au⟩;have rJ:Below wr.heap.size wr w2:=fu.o.trans_pure au (Nat.le_refl _);have dT:=Z (Hk.o.keep au);have fB:=Z (St.o.keep rJ (Nat.le_refl _));have k0:w2.cell? ⟨wr.heap.size,0,none⟩=some (.int .i64 a):=dT.o.cell 0;have k1:w2.cell? ⟨wr.heap.size,1,none⟩=some (.int .i64 b'):=dT.o.cell 1;have k2:w2.cell? ⟨wr.heap.size,2,none⟩=some (.int .i64 x):=dT.o.cell 2;have k3:w2.cell? ⟨wr.heap.size,3,none⟩=some (.int .i64 y):=dT.o.cell 3;have jK:D0 r c m a b' x y=decide (CB r c m (a,b',x,y)):=Ps (s:=(a,b',x,y));rw[jK];clear jK Hk dT;by_cases aD:CB r c m (a,b',x,y)
         ·rw[decide_eq_true aD];have aJ:=Z (show TO r c m a b' x (y+1)=TO r c m a b' x y++[(a,b',x,y)] from by rw[OR,if_pos aD]);clear aD;have gZ:=Z (Below.pureAlloc w2 (.cells (FT (a,b',x,y)).toArray 65));have gQ:=Z (Aw.new w2 (FT (a,b',x,y)).toArray 65);have g6:=Z (fB.o.keep gZ.o (Nat.le_refl _));obtain⟨l,hl⟩:∃l,l=ZQ r c m a++Zi r c m a b'++sw3 r c m a b' x++TO r c m a b' x y:=⟨_,rfl⟩;rw[←hl] at g6;have Hl:=Z hl;clear hl fB;obtain⟨ao,co,rfl⟩:=g6.o.own.shape;have aP:=Nat.lt_of_le_of_lt g6.o.len (show _<1073741824 from by omega);have jX:=g6.o.bel.size;go_wp2_with (at_builtin;(refine KM (w:=w2.alloc (.cells (FT (a,b',x,y)).toArray 65)) (v:=.slice ao l.length co) (l:=l) (gb:=w2.heap.size) (c:=1) rfl _ _ 116 rfl Tryz.underlying116 JA rfl (by decide) w.heap.size (a,b',x,y) rfl rfl (by exact gQ.o) (by exact g6.o.own) aP (by exact jX) ?_);intro v4 w4 o4 b4);have oV:=Z (Ll.mk (w:=w) o4 (g6.o.bel.trans (b4.below jX fun g hg=>(g6.o.own.lt g hg).1)) (by rw[List.length_append];exact Nat.succ_le_succ g6.o.len));refine⟨⟨y+1,by omega,by omega,by go_num,Z ?_⟩,by simp[intOf];omega⟩;rw[aJ.o,←List.append_assoc,←Hl.o];exact oV.o
         ·rw[decide_eq_false aD];have aJ:=Z (show TO r c m a b' x (y+1)=TO r c m a b' x y from by rw[OR,if_neg aD,List.append_nil]);clear aD;go_wp2;go_roundw
          case rel=>exact⟨y+1,by omega,by omega,by go_num,Z (by rw[aJ.o];exact fB.o.le (by omega))⟩
          case measure=>simp[intOf];omega
        ·go_wp2;go_roundw
         case rel=>exact⟨x+1,by omega,by go_num,Z (by rw[Ya,←List.append_assoc];obtain rfl:y=c:=(by omega);exact St.o.le (by omega))⟩
         case measure=>simp[intOf];omega
      ·go_wp2;go_roundw
       case rel=>exact⟨b'+1,by omega,by omega,by go_num,Z (by rw[Xp,←List.append_assoc];obtain rfl:x=c:=(by omega);exact St.o.le (by omega))⟩
       case measure=>simp[intOf];omega
    ·go_wp2;go_roundw
     case rel=>exact⟨a+1,by omega,by go_num,Z (by rw[Xh];obtain rfl:b'=r:=(by omega);exact St.o.le (by omega))⟩
     case measure=>simp[intOf];omega
  ·obtain⟨ao,co,rfl⟩:=St.o.own.shape;go_wp2
   go_ret
   obtain rfl:a=r:=by omega
   exact⟨_,rfl,by rw[←A19];exact St.o.own,St.o.bel⟩
def Jm(m:List (List Int))(y x:Int):Bool:=Af m&&Q8 m.length (m.headD []).length y x
def I7(m:List (List Int))(y x:Int):Int:=if Jm m y x then Al m y.toNat x.toNat else-1
theorem IB{m:List (List Int)}{r c:Nat}(hs:Ac r c m)(hr:1≤r):m.length=r∧(m.headD []).length=c:=by
 refine⟨hs.1,?_⟩;cases m with
 |nil=>exact absurd hs.1 (by simp;omega)
 |cons row l=>exact(hs.2 row List.mem_cons_self).1
theorem QL{m:List (List Int)}(h:Af m=false)(y x:Int):Jm m y x=false:=by rw[Jm,h];rfl
theorem EP{m:List (List Int)}{r c:Nat}(hs:Ac r c m)(hr:1≤r)(h:Af m=true)(y x:Int):Jm m y x=Q8 r c y x:=by
 obtain⟨e1,e2⟩:=IB hs hr;rw[Jm,h,e1,e2];rfl
theorem A0V{m:List (List Int)}{r c:Nat}(hs:Ac r c m)(hr:1≤r)(h:Af m=true)(y x:Int):I7 m y x=A3L m r c y x:=by
 rw[I7,EP hs hr h];rfl
theorem UK(v:Value)(m:List (List Int))(y x:Int)(w:World)(hv:Ak w v m):Calls Tryz.prog 94 #[v,.int .i64 y,.int .i64 x] w fun e w'=>e=.returned (.bool (Jm m y x))∧w=w':=by
 cases h:Af m
 ·have Hr:=Z (QL h y x);have aS:=Z h;have Hv:=Z hv;obtain⟨a,cap0,rfl,-⟩:=hv;clear h;go_enter Tryz.func94,Tryz.ntmps94;go_wp2_with (fail);refine(AP _ _ _ Hv.o).mono ?_;rintro e w' ⟨rfl,rfl⟩;rw[aS.o];go_wp2
  go_ret
  exact⟨AI Hr.o.symm,rfl⟩
 ·obtain⟨r,c,hr1,hr5,hc1,hc5,hs⟩:=Ad h;rw[EP hs hr1 h]
  first
   |exact Cq v m r c y x w hv hs hr1 hr5 hc1 hc5
   |exact Dj v m r c y x w hv hs hr1 hr5 hc1 hc5
theorem UP(v:Value)(m:List (List Int))(y x:Int)(w:World)(hv:Ak w v m):Calls Tryz.prog 210 #[v,.int .i64 y,.int .i64 x] w fun e w'=>e=.returned (.bool (Jm m y x))∧w=w':=by
 cases h:Af m
 ·have Hr:=Z (QL h y x);have aS:=Z h;have Hv:=Z hv;obtain⟨a,cap0,rfl,-⟩:=hv;clear h;go_enter Tryz.func210,Tryz.ntmps210;go_wp2_with (fail);refine(AU _ _ _ Hv.o).mono ?_;rintro e w' ⟨rfl,rfl⟩;rw[aS.o];go_wp2
  go_ret
  exact⟨AI Hr.o.symm,rfl⟩
 ·obtain⟨r,c,hr1,hr5,hc1,hc5,hs⟩:=Ad h;rw[EP hs hr1 h]
  first
   |exact Cq v m r c y x w hv hs hr1 hr5 hc1 hc5
   |exact Dj v m r c y x w hv hs hr1 hr5 hc1 hc5
theorem SX(v:Value)(m:List (List Int))(y x:Int)(w:World)(hv:Ak w v m):Calls Tryz.prog 39 #[v,.int .i64 y,.int .i64 x] w fun e w'=>e=.returned (.int .i64 (I7 m y x))∧w=w':=by
 have Hv:=Z hv;obtain⟨a,cap0,rfl,-⟩:=id hv;cases h1:Jm m y x
 ·have Hr:=Z (show I7 m y x=-1 from by simp[I7,h1]);have H1:=Z h1;clear h1;go_enter Tryz.func39,Tryz.ntmps39;go_wp2_with (fail);refine(UK _ _ _ _ _ Hv.o).mono ?_;rintro e w' ⟨rfl,rfl⟩;rw[H1.o];go_wp2
  go_ret
  exact⟨CM Hr.o.symm,rfl⟩
 ·have aD:Af m=true:=by unfold Jm at h1;rw[Bool.and_eq_true] at h1;exact h1.1
  obtain⟨r,c,hr1,hr5,hc1,hc5,hs⟩:=Ad aD;have h2:=h1;rw[EP hs hr1 aD] at h2;unfold Q8 at h2;rw[Bool.and_eq_true,AT,AT] at h2;obtain⟨⟨y0,y1⟩,x0,x1⟩:=h2;obtain⟨yn,rfl⟩:∃n:Nat,y=n:=⟨y.toNat,by omega⟩;obtain⟨xn,rfl⟩:∃n:Nat,x=n:=⟨x.toNat,by omega⟩;have bJ:=hs.1;obtain⟨row,aG,aw,eG⟩:=hs.row (y:=yn) (by omega);obtain⟨b,off,cpr,he,hb,-⟩:=Hv.o.inv_ne (by omega);obtain⟨rfl,-⟩:a=some ⟨b,off,none⟩∧cap0=cpr:=by simpa using he
  obtain⟨u,aQ,hu⟩:=Sl.at Hv.o aG;have hu:Ab w u row:=hu;obtain⟨br,offr,cpr2,rfl,dL,bB⟩:=hu.inv_ne (by omega);obtain⟨z,hz⟩:∃z,row[xn]? =some z:=⟨_,List.getElem?_eq_getElem (by omega)⟩;have mD:=Ab.at hu hz;have Hr:=Z (show I7 m yn xn=z from by
   unfold I7;rw[if_pos h1,Int.toNat_natCast,Int.toNat_natCast];unfold Al;rw[AL aG,AL hz])
  have H1:=Z h1;rw[bJ] at Hv⊢;have gO:yn<r:=by omega
  have qn:xn<row.length:=by omega
  clear h1 aG hz hu bB aw bJ he aD;go_enter Tryz.func39,Tryz.ntmps39;go_wp2_with (fail);refine(UK _ _ _ _ _ Hv.o).mono ?_;rintro e w' ⟨rfl,rfl⟩;rw[H1.o];go_wp2
  go_ret
  exact⟨CM Hr.o.symm,rfl⟩
theorem A34(v:Value)(m:List (List Int))(y x:Int)(w:World)(hv:Ak w v m):Calls Tryz.prog 150 #[v,.int .i64 y,.int .i64 x] w fun e w'=>e=.returned (.int .i64 (I7 m y x))∧w=w':=by
 have Hv:=Z hv;obtain⟨a,cap0,rfl,-⟩:=id hv;cases h1:Jm m y x
 ·have Hr:=Z (show I7 m y x=-1 from by simp[I7,h1]);have H1:=Z h1;clear h1;go_enter Tryz.func150,Tryz.ntmps150;go_wp2_with (fail);refine(UP _ _ _ _ _ Hv.o).mono ?_;rintro e w' ⟨rfl,rfl⟩;rw[H1.o];go_wp2
  go_ret
  exact⟨CM Hr.o.symm,rfl⟩
 ·have aD:Af m=true:=by unfold Jm at h1;rw[Bool.and_eq_true] at h1;exact h1.1
  obtain⟨r,c,hr1,hr5,hc1,hc5,hs⟩:=Ad aD;have h2:=h1;rw[EP hs hr1 aD] at h2;unfold Q8 at h2;rw[Bool.and_eq_true,AT,AT] at h2;obtain⟨⟨y0,y1⟩,x0,x1⟩:=h2;obtain⟨yn,rfl⟩:∃n:Nat,y=n:=⟨y.toNat,by omega⟩;obtain⟨xn,rfl⟩:∃n:Nat,x=n:=⟨x.toNat,by omega⟩;have bJ:=hs.1;obtain⟨row,aG,aw,eG⟩:=hs.row (y:=yn) (by omega);obtain⟨b,off,cpr,he,hb,-⟩:=Hv.o.inv_ne (by omega);obtain⟨rfl,-⟩:a=some ⟨b,off,none⟩∧cap0=cpr:=by simpa using he
  obtain⟨u,aQ,hu⟩:=Sl.at Hv.o aG;have hu:Ab w u row:=hu;obtain⟨br,offr,cpr2,rfl,dL,bB⟩:=hu.inv_ne (by omega);obtain⟨z,hz⟩:∃z,row[xn]? =some z:=⟨_,List.getElem?_eq_getElem (by omega)⟩;have mD:=Ab.at hu hz;have Hr:=Z (show I7 m yn xn=z from by
   unfold I7;rw[if_pos h1,Int.toNat_natCast,Int.toNat_natCast];unfold Al;rw[AL aG,AL hz])
  have H1:=Z h1;rw[bJ] at Hv⊢;have gO:yn<r:=by omega
  have qn:xn<row.length:=by omega
  clear h1 aG hz hu bB aw bJ he aD;go_enter Tryz.func150,Tryz.ntmps150;go_wp2_with (fail);refine(UP _ _ _ _ _ Hv.o).mono ?_;rintro e w' ⟨rfl,rfl⟩;rw[H1.o];go_wp2
  go_ret
  exact⟨CM Hr.o.symm,rfl⟩
def M0(w:World)(o:Option (List (List Int))):Ending→World→Prop:=fun e w'=>∃v,e=.returned (.tuple #[v,.bool o.isSome])∧A4 32 (A4 3 A7) (Iv w.heap.size w'.heap.size) w' v (o.getD [])∧Below w.heap.size w w'
def Jl(m:List (List Int))(y x cell:Int):Option (List (List Int)):=if Jm m y x=true∧BR 0 1 cell=true then some (setC m y.toNat x.toNat cell) else none
theorem A2L(v:Value)(m:List (List Int))(y x cell:Int)(w:World)(hv:Ak w v m):Calls Tryz.prog 38 #[v,.int .i64 y,.int .i64 x,.int .i64 cell] w (M0 w (Jl m y x cell)):=by
 have Hv:=Z hv;obtain⟨a,cap0,rfl,-⟩:=id hv;cases h1:Jm m y x
 ·have Hr:=Z (show Jl m y x cell=none from by simp[Jl,h1]);have H1:=Z h1;clear h1;go_enter Tryz.func38,Tryz.ntmps38;go_wp2_with (fail);refine(UK _ _ _ _ _ Hv.o).mono ?_;rintro e w' ⟨rfl,rfl⟩;rw[H1.o];go_wp2
  go_ret2
  exact⟨_,by rw[Hr.o];rfl,by rw[Hr.o];exact A4.nil _ _ _ _,Below.refl _ _⟩
 ·cases h3:BR 0 1 cell
  ·have Hr:=Z (show Jl m y x cell=none from by simp[Jl,h3]);have H1:=Z h1;have H3:=Z h3;clear h1 h3;go_enter Tryz.func38,Tryz.ntmps38;go_wp2_with (fail);refine(UK _ _ _ _ _ Hv.o).mono ?_;rintro e w' ⟨rfl,rfl⟩;rw[H1.o];go_wp2_with (fail);refine(B6 _ _ _ _).mono ?_;rintro e w' ⟨rfl,rfl⟩;rw[H3.o];go_wp2
   go_ret2
   exact⟨_,by rw[Hr.o];rfl,by rw[Hr.o];exact A4.nil _ _ _ _,Below.refl _ _⟩
  ·have aD:Af m=true:=by unfold Jm at h1;rw[Bool.and_eq_true] at h1;exact h1.1
   obtain⟨r,c,hr1,hr5,hc1,hc5,hs⟩:=Ad aD;have h2:=h1;rw[EP hs hr1 aD] at h2;unfold Q8 at h2;rw[Bool.and_eq_true,AT,AT] at h2;obtain⟨⟨y0,y1⟩,x0,x1⟩:=h2;obtain⟨yn,rfl⟩:∃n:Nat,y=n:=⟨y.toNat,by omega⟩;obtain⟨xn,rfl⟩:∃n:Nat,x=n:=⟨x.toNat,by omega⟩;have Hr:=Z (show Jl m yn xn cell=some (setC m yn xn cell) from by simp[Jl,h1,h3]);have aM:=(AT ..).mp h3;have H1:=Z h1;have H3:=Z h3;have jQ:=Z (show m.length≤1048576 from by have:=hs.1;omega);have HR:=Z (show ∀p∈m,p.length≤1048576 from fun p hp=>by have:=(hs.2 p hp).1;omega);clear h1 h3 aD;go_enter Tryz.func38,Tryz.ntmps38;go_wp2_with (fail);refine(UK _ _ _ _ _ Hv.o).mono ?_;rintro e w' ⟨rfl,rfl⟩;rw[H1.o];go_wp2_with (fail);refine(B6 _ _ _ _).mono ?_;rintro e w' ⟨rfl,rfl⟩;rw[H3.o];go_wp2_with (fail);refine(EO _ m _ Hv.o jQ.o HR.o).mono ?_;rintro e w2 ⟨v2,rfl,o2,b2⟩;have bJ:=hs.1;obtain⟨G,cap,rfl,hG,ak,hGl,-⟩:=o2.inv_ne (by omega);obtain⟨aG,aw⟩:=Cv hs (y:=yn) (by omega);obtain⟨q,cq,aQ,-,hq,-,di,dz,-,ap⟩:=AC o2 aG (by omega);obtain⟨⟨o,ho⟩,gN⟩:=dz xn (by omega);have o3:=ap w2 (fun _ _=>rfl) xn cell (by omega) ⟨by omega,by omega⟩;have b3:=b2.setCell (p:=⟨q,xn,none⟩) hq.1 (.int .i64 cell);rw[aw] at aQ di;rw[bJ] at o3 ak⊢;have cn:=Z o3;have bM:=Z b3;clear o2 o3 b2 b3 ap aG dz;go_wp2
   go_ret2
   refine⟨_,by rw[Hr.o];rfl,?_,bM.o⟩;rw[Hr.o,A9];exact cn.o
theorem A1H(v:Value)(m:List (List Int))(y x cell:Int)(w:World)(hv:Ak w v m):Calls Tryz.prog 149 #[v,.int .i64 y,.int .i64 x,.int .i64 cell] w (M0 w (Jl m y x cell)):=by
 have Hv:=Z hv;obtain⟨a,cap0,rfl,-⟩:=id hv;cases h1:Jm m y x
 ·have Hr:=Z (show Jl m y x cell=none from by simp[Jl,h1]);have H1:=Z h1;clear h1;go_enter Tryz.func149,Tryz.ntmps149;go_wp2_with (fail);refine(UP _ _ _ _ _ Hv.o).mono ?_;rintro e w' ⟨rfl,rfl⟩;rw[H1.o];go_wp2
  go_ret2
  exact⟨_,by rw[Hr.o];rfl,by rw[Hr.o];exact A4.nil _ _ _ _,Below.refl _ _⟩
 ·cases h3:BR 0 1 cell
  ·have Hr:=Z (show Jl m y x cell=none from by simp[Jl,h3]);have H1:=Z h1;have H3:=Z h3;clear h1 h3;go_enter Tryz.func149,Tryz.ntmps149;go_wp2_with (fail);refine(UP _ _ _ _ _ Hv.o).mono ?_;rintro e w' ⟨rfl,rfl⟩;rw[H1.o];go_wp2_with (fail);refine(AR _ _ _ _).mono ?_;rintro e w' ⟨rfl,rfl⟩;rw[H3.o];go_wp2
   go_ret2
   exact⟨_,by rw[Hr.o];rfl,by rw[Hr.o];exact A4.nil _ _ _ _,Below.refl _ _⟩
  ·have aD:Af m=true:=by unfold Jm at h1;rw[Bool.and_eq_true] at h1;exact h1.1
   obtain⟨r,c,hr1,hr5,hc1,hc5,hs⟩:=Ad aD;have h2:=h1;rw[EP hs hr1 aD] at h2;unfold Q8 at h2;rw[Bool.and_eq_true,AT,AT] at h2;obtain⟨⟨y0,y1⟩,x0,x1⟩:=h2;obtain⟨yn,rfl⟩:∃n:Nat,y=n:=⟨y.toNat,by omega⟩;obtain⟨xn,rfl⟩:∃n:Nat,x=n:=⟨x.toNat,by omega⟩;have Hr:=Z (show Jl m yn xn cell=some (setC m yn xn cell) from by simp[Jl,h1,h3]);have aM:=(AT ..).mp h3;have H1:=Z h1;have H3:=Z h3;have jQ:=Z (show m.length≤1048576 from by have:=hs.1;omega);have HR:=Z (show ∀p∈m,p.length≤1048576 from fun p hp=>by have:=(hs.2 p hp).1;omega);clear h1 h3 aD;go_enter Tryz.func149,Tryz.ntmps149;go_wp2_with (fail);refine(UP _ _ _ _ _ Hv.o).mono ?_;rintro e w' ⟨rfl,rfl⟩;rw[H1.o];go_wp2_with (fail);refine(AR _ _ _ _).mono ?_;rintro e w' ⟨rfl,rfl⟩;rw[H3.o];go_wp2_with (fail);refine(DG _ m _ Hv.o jQ.o HR.o).mono ?_;rintro e w2 ⟨v2,rfl,o2,b2⟩;have bJ:=hs.1;obtain⟨G,cap,rfl,hG,ak,hGl,-⟩:=o2.inv_ne (by omega);obtain⟨aG,aw⟩:=Cv hs (y:=yn) (by omega);obtain⟨q,cq,aQ,-,hq,-,di,dz,-,ap⟩:=AC o2 aG (by omega);obtain⟨⟨o,ho⟩,gN⟩:=dz xn (by omega);have o3:=ap w2 (fun _ _=>rfl) xn cell (by omega) ⟨by omega,by omega⟩;have b3:=b2.setCell (p:=⟨q,xn,none⟩) hq.1 (.int .i64 cell);rw[aw] at aQ di;rw[bJ] at o3 ak⊢;have cn:=Z o3;have bM:=Z b3;clear o2 o3 b2 b3 ap aG dz;go_wp2
   go_ret2
   refine⟨_,by rw[Hr.o];rfl,?_,bM.o⟩;rw[Hr.o,A9];exact cn.o

/- Base. -/
import Derived.Test.YthmocomfjgmjoaaGreatDoorQ04
import Derived.Test.YthmocomfjgmjoaaGreatDoorQ06
set_option maxHeartbeats 1600000
set_option maxRecDepth 100000
namespace Go.Proofs.YthmocomfjgmjoaaGreatDoor
open Go.RowKit
theorem Q9(n:Int)(w:World)(h1:-1048576≤n)(h2:n≤1048576):Calls Tryz.prog 245 #[.int .i64 n] w fun e w'=>e=.returned (.int .i64 (Sk n))∧w=w':=by
 go_enter Tryz.func245,Tryz.ntmps245;by_cases hn:n<0
 ·have H:=Z (show Sk n=-n from by unfold Sk;rw[if_pos hn]);go_wp2
  go_ret
  exact⟨CM (by rw[H.o]),rfl⟩
 ·have H:=Z (show Sk n=n from by unfold Sk;rw[if_neg hn]);go_wp2
  go_ret
  exact⟨CM (by rw[H.o]),rfl⟩
theorem XW(v v2:Value)(xs ys:List Int)(w:World)(hv:Ab w v xs)(aW:Ab w v2 ys)(hl:xs.length=ys.length)(h5:xs.length≤5)(hx:∀x∈xs,0≤x∧x≤5)(hy:∀x∈ys,0≤x∧x≤5):
  Calls Tryz.prog 297 #[v,v2] w fun e w'=>e=.returned (.int .i64 (gap xs ys))∧Below w.heap.size w w':=by
 have Hv:=Z hv;have aj:=Z aW;obtain⟨a,cap,rfl,-⟩:=hv;obtain⟨a2,cap2,rfl,-⟩:=aW;have eX:xs.length≤ys.length:=by omega
 rw[←hl] at aj⊢;have Hl:=Z hl;clear hl;go_enter Tryz.func297,Tryz.ntmps297;go_wp2;go_loopw [5,6,7,10] (fun s _ _ i wr=>∃k:Nat,k≤xs.length∧i=.int .i64 k∧s=.int .i64 (Ja xs ys k)∧Below w.heap.size w wr) (fun _ _ _ i _=>xs.length-(intOf i).toNat)
 case atStart=>exact⟨0,Nat.zero_le _,rfl,rfl,Below.refl _ _⟩
 case round=>
  obtain⟨k,hk,rfl,rfl,aA⟩:=hrel;have qO:=IA hx hy k;have hU:=qO.1;have kd:=qO.2;by_cases aH:k<xs.length
  ·obtain⟨x,hxk⟩:∃x,xs[k]? =some x:=⟨_,List.getElem?_eq_getElem aH⟩;obtain⟨y,iQ⟩:∃y,ys[k]? =some y:=⟨_,List.getElem?_eq_getElem (by omega)⟩;obtain⟨b,off,cpr,he,hb,-⟩:=Hv.o.inv_ne (by omega);obtain⟨rfl,-⟩:a=some ⟨b,off,none⟩∧cap=cpr:=by simpa using he
   obtain⟨b2,off2,cpr2,dh,au,-⟩:=aj.o.inv_ne (by omega);obtain⟨rfl,-⟩:a2=some ⟨b2,off2,none⟩∧cap2=cpr2:=by simp at dh;exact⟨dh.1,dh.2.2⟩
   have fW:=Ab.at Hv.o hxk;have qP:=Ab.at aj.o iQ;rw[←aA.cell (p:=⟨b,off+k,none⟩) hb] at fW;rw[←aA.cell (p:=⟨b2,off2+k,none⟩) au] at qP;have gF:=hx x (List.mem_of_getElem? hxk);have fx:=hy y (List.mem_of_getElem? iQ);have eu:=gF.1;have jb:=gF.2;have jm:=fx.1;have lG:=fx.2;have aJ:=Z (Nb hxk iQ);clear hxk iQ he dh gF fx qO hx hy;by_cases bt:x<y
   ·have Hm:=Z (show Sk (x-y)=y-x from by unfold Sk;rw[if_pos (by omega)];omega);go_wp2
    go_region
    all_goals
     go_wp2;go_roundw
     case rel=>exact⟨k+1,by omega,by go_num,by rw[aJ.o,Hm.o],below_drewN aA _⟩
     case measure=>simp[intOf];omega
   ·have Hm:=Z (show Sk (x-y)=x-y from by unfold Sk;rw[if_neg (by omega)]);go_wp2
    go_region
    all_goals
     go_wp2;go_roundw
     case rel=>exact⟨k+1,by omega,by go_num,by rw[aJ.o,Hm.o],below_drewN aA _⟩
     case measure=>simp[intOf];omega
  ·obtain rfl:k=xs.length:=by omega
   go_wp2
   go_ret
   exact⟨rfl,aA⟩
theorem Xb(v1 v2 v3:Value)(rows cols:List Int)(m:List (List Int))(w:World)(h1:Ab w v1 rows)(h2:Ab w v2 cols)(h3:Ak w v3 m)(cU:BX rows cols m=false):
  Calls Tryz.prog 174 #[v1,v2,v3] w fun e w'=>e=.returned (.int .i64 (B7 rows cols m))∧Below w.heap.size w w':=by
 have H1:=Z h1;have H2:=Z h2;have H3:=Z h3;obtain⟨a1,c1,rfl,-⟩:=id h1;obtain⟨a2,c2,rfl,-⟩:=id h2;obtain⟨a3,c3,rfl,-⟩:=id h3;clear h1 h2 h3;cases dK:DH rows cols
 ·have Hr:=Z (show B7 rows cols m=-1 from by simp[B7,BX,dK]);have ew:=Z dK;clear dK;go_enter Tryz.func174,Tryz.ntmps174;go_wp2_with (fail);refine(FM _ _ _ _ _ H1.o H2.o).mono ?_;rintro e w' ⟨rfl,rfl⟩;rw[ew.o];go_wp2
  go_ret
  exact⟨CM Hr.o.symm,Below.refl _ _⟩
 cases him:Af m
 ·have Hr:=Z (show B7 rows cols m=-1 from by simp[B7,BX,him]);have ew:=Z dK;clear dK;have fy:=Z him;clear him;go_enter Tryz.func174,Tryz.ntmps174;go_wp2_with (fail);refine(FM _ _ _ _ _ H1.o H2.o).mono ?_;rintro e w' ⟨rfl,rfl⟩;rw[ew.o];go_wp2_with (fail);refine(AP _ _ _ H3.o).mono ?_;rintro e w' ⟨rfl,rfl⟩;rw[fy.o];go_wp2
  go_ret
  exact⟨CM Hr.o.symm,Below.refl _ _⟩
 obtain⟨r,c,hr1,hr5,hc1,hc5,bA⟩:=Ad him;have bJ:=bA.1;obtain⟨fX,bG,hrl0,-⟩:=bA.row (y:=0) (by omega);obtain⟨b,off,cpr,he,hb,-⟩:=H3.o.inv_ne (by omega);obtain⟨rfl,-⟩:a3=some ⟨b,off,none⟩∧c3=cpr:=by simpa using he
 obtain⟨u0,hck0,eL⟩:=Sl.at H3.o bG;obtain⟨a0,cp0,rfl,-⟩:=eL;rw[hrl0,Nat.add_zero] at hck0;have dO:=bA.head hr1;rw[bJ] at H3⊢;have ew:=Z dK;have fy:=Z him;rcases(Decidable.em (r=rows.length)).symm with hlr|hlr
 ·have Hr:=Z (show B7 rows cols m=-1 from by simp[B7,BX,bJ,hlr]);have aO:((r:Int)==(rows.length:Int))=false:=by rw[beq_eq_false_iff_ne];omega
  clear dK him bG he bJ hrl0 dO;go_enter Tryz.func174,Tryz.ntmps174;go_wp2_with (fail);refine(FM _ _ _ _ _ H1.o H2.o).mono ?_;rintro e w' ⟨rfl,rfl⟩;rw[ew.o];go_wp2_with (fail);refine(AP _ _ _ H3.o).mono ?_;rintro e w' ⟨rfl,rfl⟩;rw[fy.o];go_wp2
  go_ret
  exact⟨CM Hr.o.symm,Below.refl _ _⟩
 subst hlr;rcases(Decidable.em (c=cols.length)).symm with hlc|hlc
 ·have Hr:=Z (show B7 rows cols m=-1 from by unfold B7 BX;rw[dO];simp[hlc]);have aO:((c:Int)==(cols.length:Int))=false:=by rw[beq_eq_false_iff_ne];omega
  clear dK him bG he bJ hrl0 dO;go_enter Tryz.func174,Tryz.ntmps174;go_wp2_with (fail);refine(FM _ _ _ _ _ H1.o H2.o).mono ?_;rintro e w' ⟨rfl,rfl⟩;rw[ew.o];go_wp2_with (fail);refine(AP _ _ _ H3.o).mono ?_;rintro e w' ⟨rfl,rfl⟩;rw[fy.o];go_wp2
  go_ret
  exact⟨CM Hr.o.symm,Below.refl _ _⟩
 subst hlc;exact absurd cU (by unfold BX;rw[dK,him,bJ,dO];simp)
theorem YO(v1 v2 v3:Value)(rows cols:List Int)(m:List (List Int))(w:World)(h1:Ab w v1 rows)(h2:Ab w v2 cols)(h3:Ak w v3 m)(aD:BX rows cols m=true):
  Calls Tryz.prog 174 #[v1,v2,v3] w fun e w'=>e=.returned (.int .i64 (B7 rows cols m))∧Below w.heap.size w w':=by
 have H1:=Z h1;have H2:=Z h2;have H3:=Z h3;obtain⟨a1,c1,rfl,-⟩:=id h1;obtain⟨a2,c2,rfl,-⟩:=id h2;obtain⟨a3,c3,rfl,-⟩:=id h3;clear h1 h2 h3;obtain⟨r,c,HA⟩:=Lp aD;obtain⟨hr1,hr4,hc1,hc4,hrl',lH,bA,eG,eY⟩:=HA;subst hrl' lH;have fM:=aD;unfold BX at fM;simp only[Bool.and_eq_true,decide_eq_true_eq] at fM;obtain⟨⟨⟨dK,him⟩,bJ⟩,dO⟩:=fM;have hr5:rows.length≤5:=by omega
 have hc5:cols.length≤5:=by omega
 obtain⟨fX,bG,hrl0,-⟩:=bA.row (y:=0) (by omega);obtain⟨b,off,cpr,he,hb,-⟩:=H3.o.inv_ne (by omega);obtain⟨rfl,-⟩:a3=some ⟨b,off,none⟩∧c3=cpr:=by simpa using he
 obtain⟨u0,hck0,eL⟩:=Sl.at H3.o bG;obtain⟨a0,cp0,rfl,-⟩:=eL;rw[hrl0,Nat.add_zero] at hck0;rw[bJ] at H3⊢;have ew:=Z dK;have fy:=Z him;have Hr:=Z (show B7 rows cols m=gap rows (A6 m)+gap cols (A8 m) from by unfold B7;rw[if_pos aD]);have np:=Ch bA hr1 hr5 hc1 hc5;have bD:=Cl bA hr1 hr5 hc1 hc5;have kd:=fun k=>IA eG np.2 k;have mG:=fun k=>IA eY bD.2 k;have aw:(A6 m).length=rows.length:=np.1;have az:(A8 m).length=cols.length:=bD.1;have gJ:=Z aw;have fY:=Z az;have sg:=Z kd;have gG:=Z mG;have xm:=Z np.2;have sB:=Z bD.2;have jn:=Z eG;have i8:=Z eY;clear dK him bG he bJ hrl0 dO aD np bD kd mG aw az eG eY;go_enter Tryz.func174,Tryz.ntmps174;go_wp2_with (fail);refine(FM _ _ _ _ _ H1.o H2.o).mono ?_;rintro e w' ⟨rfl,rfl⟩;rw[ew.o];go_wp2_with (fail);refine(AP _ _ _ H3.o).mono ?_;rintro e w' ⟨rfl,rfl⟩;rw[fy.o];go_wp2_with (fail);refine(E7 _ _ _ H3.o).mono ?_;rintro e w1 ⟨s1,rfl,o1,b1⟩;have K1:=Z o1.ints;obtain⟨p1,n1,q1,rfl⟩:=o1.shape;obtain rfl:=Ab.len K1.o;rw[gJ.o] at K1⊢;clear o1;go_wp2
 go_loop [7,8,9,40] (fun s _ _ i=>∃k:Nat,k≤rows.length∧i=.int .i64 k∧s=.int .i64 (Ja rows (A6 m) k)) (fun _ _ _ i=>rows.length-(intOf i).toNat)
 case atStart=>exact⟨0,Nat.zero_le _,rfl,rfl⟩
 case round=>
  obtain⟨k,hk,rfl,rfl⟩:=hrel;have hU:=(sg.o k).1;have kd:=(sg.o k).2;by_cases aH:k<rows.length
  ·obtain⟨x,hx⟩:∃x,rows[k]? =some x:=⟨_,List.getElem?_eq_getElem aH⟩;obtain⟨y,hy⟩:∃y,(A6 m)[k]? =some y:=⟨_,List.getElem?_eq_getElem (by rw[gJ.o];exact aH)⟩;obtain⟨bx,offx,cpx,bR,hbx,-⟩:=H1.o.inv_ne (by omega);obtain⟨rfl,-⟩:a1=some ⟨bx,offx,none⟩∧c1=cpx:=by simpa using bR
   obtain⟨xp,offy,cpy,nr,eM,-⟩:=K1.o.inv_ne (by rw[gJ.o];omega);obtain⟨rfl,-⟩:p1=some ⟨xp,offy,none⟩∧q1=cpy:=by simp at nr;exact⟨nr.1,nr.2.2⟩
   have fW:=Ab.at H1.o hx;have qP:=Ab.at K1.o hy;rw[←b1.cell (p:=⟨bx,offx+k,none⟩) hbx] at fW;have gF:=jn.o x (List.mem_of_getElem? hx);have fx:=xm.o y (List.mem_of_getElem? hy);have eu:=gF.1;have jb:=gF.2;have jm:=fx.1;have lG:=fx.2;have aJ:=Z (Nb hx hy);have nW:=A3n (y-x);have wn:Sk (y-x)≤5:=by unfold Sk;split<;>omega
   have xq:=Z (A1a x y);clear hx hy bR nr gF fx;go_wp2_with (first|(go_at_call 245;refine(Q9 _ _ (by omega) (by omega)).mono ?_;rintro e w' ⟨rfl,rfl⟩))
   go_round
   case rel=>exact⟨k+1,by omega,by go_num,by rw[aJ.o,xq.o]⟩
   case measure=>simp[intOf];omega
  ·obtain rfl:k=rows.length:=by omega
   have dW:decide ((rows.length:Int)<(rows.length:Int))=false:=by simp
   go_wp2_with (fail);refine(EA _ _ _ (H3.o.keep b1)).mono ?_;rintro e w2 ⟨s2,rfl,o2,b2⟩;have cI:=b1.trans_pure b2 (Nat.le_refl _);have K2:=Z o2.ints;obtain⟨p2,n2,q2,rfl⟩:=o2.shape;obtain rfl:=Ab.len K2.o;rw[fY.o] at K2⊢;clear o2;go_wp2
   go_loop [7,10,11,58] (fun s _ _ i=>∃j:Nat,j≤cols.length∧i=.int .i64 j∧s=.int .i64 (Ja rows (A6 m) rows.length+Ja cols (A8 m) j)) (fun _ _ _ i=>cols.length-(intOf i).toNat)
   case atStart=>exact⟨0,Nat.zero_le _,rfl,by simp[Ja]⟩
   case round=>
    obtain⟨j,hj,rfl,rfl⟩:=hrel;have hh0:=(gG.o j).1;have hh1:=(gG.o j).2;by_cases hltj:j<cols.length
    ·obtain⟨x,hx⟩:∃x,cols[j]? =some x:=⟨_,List.getElem?_eq_getElem hltj⟩;obtain⟨y,hy⟩:∃y,(A8 m)[j]? =some y:=⟨_,List.getElem?_eq_getElem (by rw[fY.o];exact hltj)⟩;obtain⟨bx,offx,cpx,bR,hbx,-⟩:=H2.o.inv_ne (by omega);obtain⟨rfl,-⟩:a2=some ⟨bx,offx,none⟩∧c2=cpx:=by simpa using bR
     obtain⟨xp,offy,cpy,nr,eM,-⟩:=K2.o.inv_ne (by rw[fY.o];omega);obtain⟨rfl,-⟩:p2=some ⟨xp,offy,none⟩∧q2=cpy:=by simp at nr;exact⟨nr.1,nr.2.2⟩
     have fW:=Ab.at H2.o hx;have qP:=Ab.at K2.o hy;rw[←cI.cell (p:=⟨bx,offx+j,none⟩) hbx] at fW;have gF:=i8.o x (List.mem_of_getElem? hx);have fx:=sB.o y (List.mem_of_getElem? hy);have eu:=gF.1;have jb:=gF.2;have jm:=fx.1;have lG:=fx.2;have aJ:=Z (Nb hx hy);have nW:=A3n (y-x);have wn:Sk (y-x)≤5:=by unfold Sk;split<;>omega
     have xq:=Z (A1a x y);clear hx hy bR nr gF fx;go_wp2_with (first|(go_at_call 245;refine(Q9 _ _ (by omega) (by omega)).mono ?_;rintro e w' ⟨rfl,rfl⟩))
     go_round
     case rel=>exact⟨j+1,by omega,by go_num,by rw[aJ.o,xq.o];congr 1;omega⟩
     case measure=>simp[intOf];omega
    ·obtain rfl:j=cols.length:=by omega
     go_wp2
     go_ret
     exact⟨CM (by rw[Hr.o];rfl),cI⟩
theorem A06(v1 v2 v3:Value)(rows cols:List Int)(m:List (List Int))(w:World)(h1:Ab w v1 rows)(h2:Ab w v2 cols)(h3:Ak w v3 m):
  Calls Tryz.prog 174 #[v1,v2,v3] w fun e w'=>e=.returned (.int .i64 (B7 rows cols m))∧Below w.heap.size w w':=by
 cases h:BX rows cols m
 ·exact Xb _ _ _ _ _ _ _ h1 h2 h3 h
 ·exact YO _ _ _ _ _ _ _ h1 h2 h3 h
theorem Yx(v1 v2 v3:Value)(rows cols:List Int)(m:List (List Int))(w:World)(h1:Ab w v1 rows)(h2:Ab w v2 cols)(h3:Ak w v3 m)(cU:BX rows cols m=false):
  Calls Tryz.prog 264 #[v1,v2,v3] w fun e w'=>e=.returned (.int .i64 (B7 rows cols m))∧Below w.heap.size w w':=by
 have H1:=Z h1;have H2:=Z h2;have H3:=Z h3;obtain⟨a1,c1,rfl,-⟩:=id h1;obtain⟨a2,c2,rfl,-⟩:=id h2;obtain⟨a3,c3,rfl,-⟩:=id h3;clear h1 h2 h3;cases dK:DH rows cols
 ·have Hr:=Z (show B7 rows cols m=-1 from by simp[B7,BX,dK]);have ew:=Z dK;clear dK;go_enter Tryz.func264,Tryz.ntmps264;go_wp2_with (fail);refine(FN _ _ _ _ _ H1.o H2.o).mono ?_;rintro e w' ⟨rfl,rfl⟩;rw[ew.o];go_wp2
  go_ret
  exact⟨CM Hr.o.symm,Below.refl _ _⟩
 cases him:Af m
 ·have Hr:=Z (show B7 rows cols m=-1 from by simp[B7,BX,him]);have ew:=Z dK;clear dK;have fy:=Z him;clear him;go_enter Tryz.func264,Tryz.ntmps264;go_wp2_with (fail);refine(FN _ _ _ _ _ H1.o H2.o).mono ?_;rintro e w' ⟨rfl,rfl⟩;rw[ew.o];go_wp2_with (fail);refine(AU _ _ _ H3.o).mono ?_;rintro e w' ⟨rfl,rfl⟩;rw[fy.o];go_wp2
  go_ret
  exact⟨CM Hr.o.symm,Below.refl _ _⟩
 obtain⟨r,c,hr1,hr5,hc1,hc5,bA⟩:=Ad him;have bJ:=bA.1;obtain⟨fX,bG,hrl0,-⟩:=bA.row (y:=0) (by omega);obtain⟨b,off,cpr,he,hb,-⟩:=H3.o.inv_ne (by omega);obtain⟨rfl,-⟩:a3=some ⟨b,off,none⟩∧c3=cpr:=by simpa using he
 obtain⟨u0,hck0,eL⟩:=Sl.at H3.o bG;obtain⟨a0,cp0,rfl,-⟩:=eL;rw[hrl0,Nat.add_zero] at hck0;have dO:=bA.head hr1;rw[bJ] at H3⊢;have ew:=Z dK;have fy:=Z him;rcases(Decidable.em (r=rows.length)).symm with hlr|hlr
 ·have Hr:=Z (show B7 rows cols m=-1 from by simp[B7,BX,bJ,hlr]);have aO:((r:Int)==(rows.length:Int))=false:=by rw[beq_eq_false_iff_ne];omega
  clear dK him bG he bJ hrl0 dO;go_enter Tryz.func264,Tryz.ntmps264;go_wp2_with (fail);refine(FN _ _ _ _ _ H1.o H2.o).mono ?_;rintro e w' ⟨rfl,rfl⟩;rw[ew.o];go_wp2_with (fail);refine(AU _ _ _ H3.o).mono ?_;rintro e w' ⟨rfl,rfl⟩;rw[fy.o];go_wp2
  go_ret
  exact⟨CM Hr.o.symm,Below.refl _ _⟩
 subst hlr;rcases(Decidable.em (c=cols.length)).symm with hlc|hlc
 ·have Hr:=Z (show B7 rows cols m=-1 from by unfold B7 BX;rw[dO];simp[hlc]);have aO:((c:Int)==(cols.length:Int))=false:=by rw[beq_eq_false_iff_ne];omega
  clear dK him bG he bJ hrl0 dO;go_enter Tryz.func264,Tryz.ntmps264;go_wp2_with (fail);refine(FN _ _ _ _ _ H1.o H2.o).mono ?_;rintro e w' ⟨rfl,rfl⟩;rw[ew.o];go_wp2_with (fail);refine(AU _ _ _ H3.o).mono ?_;rintro e w' ⟨rfl,rfl⟩;rw[fy.o];go_wp2
  go_ret
  exact⟨CM Hr.o.symm,Below.refl _ _⟩
 subst hlc;exact absurd cU (by unfold BX;rw[dK,him,bJ,dO];simp)
theorem Xv(v1 v2 v3:Value)(rows cols:List Int)(m:List (List Int))(w:World)(h1:Ab w v1 rows)(h2:Ab w v2 cols)(h3:Ak w v3 m)(aD:BX rows cols m=true):
  Calls Tryz.prog 264 #[v1,v2,v3] w fun e w'=>e=.returned (.int .i64 (B7 rows cols m))∧Below w.heap.size w w':=by
 have H1:=Z h1;have H2:=Z h2;have H3:=Z h3;obtain⟨a1,c1,rfl,-⟩:=id h1;obtain⟨a2,c2,rfl,-⟩:=id h2;obtain⟨a3,c3,rfl,-⟩:=id h3;clear h1 h2 h3;obtain⟨r,c,HA⟩:=Lp aD;obtain⟨hr1,hr4,hc1,hc4,hrl',lH,bA,eG,eY⟩:=HA;subst hrl' lH;have fM:=aD;unfold BX at fM;simp only[Bool.and_eq_true,decide_eq_true_eq] at fM;obtain⟨⟨⟨dK,him⟩,bJ⟩,dO⟩:=fM;have hr5:rows.length≤5:=by omega
 have hc5:cols.length≤5:=by omega
 obtain⟨fX,bG,hrl0,-⟩:=bA.row (y:=0) (by omega);obtain⟨b,off,cpr,he,hb,-⟩:=H3.o.inv_ne (by omega);obtain⟨rfl,-⟩:a3=some ⟨b,off,none⟩∧c3=cpr:=by simpa using he
 obtain⟨u0,hck0,eL⟩:=Sl.at H3.o bG;obtain⟨a0,cp0,rfl,-⟩:=eL;rw[hrl0,Nat.add_zero] at hck0;rw[bJ] at H3⊢;have ew:=Z dK;have fy:=Z him;have Hr:=Z (show B7 rows cols m=gap rows (A6 m)+gap cols (A8 m) from by unfold B7;rw[if_pos aD]);have np:=Ch bA hr1 hr5 hc1 hc5;have bD:=Cl bA hr1 hr5 hc1 hc5;have kd:=fun k=>IA eG np.2 k;have mG:=fun k=>IA eY bD.2 k;have aw:(A6 m).length=rows.length:=np.1;have az:(A8 m).length=cols.length:=bD.1;have gJ:=Z aw;have fY:=Z az;have sg:=Z kd;have gG:=Z mG;have xm:=Z np.2;have sB:=Z bD.2;have jn:=Z eG;have i8:=Z eY;clear dK him bG he bJ hrl0 dO aD np bD kd mG aw az eG eY;go_enter Tryz.func264,Tryz.ntmps264;go_wp2_with (fail);refine(FN _ _ _ _ _ H1.o H2.o).mono ?_;rintro e w' ⟨rfl,rfl⟩;rw[ew.o];go_wp2_with (fail);refine(AU _ _ _ H3.o).mono ?_;rintro e w' ⟨rfl,rfl⟩;rw[fy.o];go_wp2_with (fail);refine(FE _ _ _ H3.o).mono ?_;rintro e w1 ⟨s1,rfl,o1,b1⟩;go_wp2_with (fail);refine(XW _ _ _ _ _ (H1.o.keep b1) o1.ints gJ.o.symm hr5 jn.o xm.o).mono ?_;rintro e w2 ⟨rfl,b2⟩;have cI:=b1.trans_pure b2 (Nat.le_refl _);go_wp2_with (fail);refine(GH _ _ _ (H3.o.keep cI)).mono ?_;rintro e w3 ⟨s3,rfl,o3,b3⟩;have dd:=cI.trans_pure b3 (Nat.le_refl _);go_wp2_with (fail);refine(XW _ _ _ _ _ (H2.o.keep dd) o3.ints fY.o.symm hc5 i8.o sB.o).mono ?_;rintro e w4 ⟨rfl,b4⟩;have eH:=dd.trans_pure b4 (Nat.le_refl _);have g1:=(sg.o rows.length).1;have g2:=(sg.o rows.length).2;have g3:=(gG.o cols.length).1;have g4:=(gG.o cols.length).2;have G1:0≤gap rows (A6 m):=g1;have G2:gap rows (A6 m)≤5*(rows.length:Int):=g2;have G3:0≤gap cols (A8 m):=g3;have G4:gap cols (A8 m)≤5*(cols.length:Int):=g4;clear g1 g2 g3 g4;go_wp2
 go_ret
 exact⟨CM Hr.o.symm,eH⟩
theorem ZK(v1 v2 v3:Value)(rows cols:List Int)(m:List (List Int))(w:World)(h1:Ab w v1 rows)(h2:Ab w v2 cols)(h3:Ak w v3 m):
  Calls Tryz.prog 264 #[v1,v2,v3] w fun e w'=>e=.returned (.int .i64 (B7 rows cols m))∧Below w.heap.size w w':=by
 cases h:BX rows cols m
 ·exact Yx _ _ _ _ _ _ _ h1 h2 h3 h
 ·exact Xv _ _ _ _ _ _ _ h1 h2 h3 h
theorem A23{P k:Nat}(h:k<P):P-(intOf (.int .i64 ((k:Int)+1))).toNat<P-(intOf (.int .i64 (k:Int))).toNat:=by simp[intOf];omega
theorem Up{n:Nat}(h:n≤40):wrap64 ((2:Int)^n)=((2^n:Nat):Int):=by
 have h1:2^n≤2^40:=Nat.pow_le_pow_right (n:=2) (by decide) h;have h2:((2^n:Nat):Int)=(2:Int)^n:=by simp
 rw[←h2];obtain⟨m,hm⟩:∃m:Nat,m=2^n:=⟨_,rfl⟩;rw[←hm] at h1⊢;unfold wrap64;omega
theorem IW{rows cols:List Int}{k:Nat}(h:Ei rows cols k=none):Ei rows cols (k+1)=some (k,B7 rows cols (DU rows.length cols.length k)):=by simp only[Ei,h]
theorem Lb{rows cols:List Int}{k b:Nat}{l:Int}(h:Ei rows cols k=some (b,l))(hl:B7 rows cols (DU rows.length cols.length k)<l):Ei rows cols (k+1)=some (k,B7 rows cols (DU rows.length cols.length k)):=by simp only[Ei,h];rw[if_pos hl]
theorem Ld{rows cols:List Int}{k b:Nat}{l:Int}(h:Ei rows cols k=some (b,l))(hl:¬B7 rows cols (DU rows.length cols.length k)<l):Ei rows cols (k+1)=some (b,l):=by simp only[Ei,h];rw[if_neg hl]
theorem P5(r c key:Nat):(DU r c key).length=r:=by simp[DU,Cw]
def JY(w:World)(rows cols:List Int)(x:Option (Nat×Int))(e:Ending)(w':World):Prop:=
 ∃v',e=.returned (.tuple #[v',.int .i64 (A3U x),.bool x.isSome])∧A4 32 (A4 3 A7) (Iv w.heap.size w'.heap.size) w' v' (Gg rows cols x)∧Below w.heap.size w w'
theorem QK(v1 v2:Value)(rows cols:List Int)(w:World)(h1:Ab w v1 rows)(h2:Ab w v2 cols)(cU:G0 rows cols=false):
  Calls Tryz.prog 115 #[v1,v2] w (JY w rows cols (BD rows cols)):=by
 have az:BD rows cols=none:=by unfold BD;rw[cU];rfl
 rw[az];have H1:=Z h1;have H2:=Z h2;obtain⟨a1,c1,rfl,-⟩:=id h1;obtain⟨a2,c2,rfl,-⟩:=id h2;clear h1 h2 az;cases dK:DH rows cols
 ·have ew:=Z dK;clear dK cU;go_enter Tryz.func115,Tryz.ntmps115;go_wp2_with (fail);refine(FM _ _ _ _ _ H1.o H2.o).mono ?_;rintro e w' ⟨rfl,rfl⟩;rw[ew.o];go_wp2;refine bodyPost_ret (v:=.tuple #[.slice none 0 0,.int .i64 0,.bool false]) (by simp[results,Tryz.results115,go_sem]) rfl ⟨_,rfl,A4.nil _ _ _ _,Below.refl _ _⟩
 ·have ns:12<rows.length*cols.length:=by
   unfold G0 at cU;rw[dK] at cU;simpa using cU
  obtain⟨k1,k2,k3,k4,-,-⟩:=FR dK;obtain⟨N,hN⟩:∃N,N=rows.length*cols.length:=⟨_,rfl⟩;have xr:N≤16:=by rw[hN];exact Nat.mul_le_mul k2 k4
  rw[←hN] at ns;have jo:(rows.length:Int)*(cols.length:Int)=(N:Int):=by rw[hN];simp
  have ew:=Z dK;clear dK cU hN;go_enter Tryz.func115,Tryz.ntmps115;go_wp2_with (fail);refine(FM _ _ _ _ _ H1.o H2.o).mono ?_;rintro e w' ⟨rfl,rfl⟩;rw[ew.o];go_wp2;refine bodyPost_ret (v:=.tuple #[.slice none 0 0,.int .i64 0,.bool false]) (by simp[results,Tryz.results115,go_sem]) rfl ⟨_,rfl,A4.nil _ _ _ _,Below.refl _ _⟩
theorem QJ(v1 v2:Value)(rows cols:List Int)(w:World)(h1:Ab w v1 rows)(h2:Ab w v2 cols)(aD:G0 rows cols=true):
  Calls Tryz.prog 115 #[v1,v2] w (JY w rows cols (BD rows cols)):=by
 have az:BD rows cols=Ei rows cols (2^(rows.length*cols.length)):=by unfold BD;rw[if_pos aD]
 have xt:=fun(w:World) (a:Option Addr) (n c n' c':Nat)=>Lib.run_eql_slice_nil (P:=Tryz.prog) w 31 32 a n c n' c' Tryz.underlying31;unfold G0 at aD;rw[Bool.and_eq_true,decide_eq_true_eq] at aD;obtain⟨dK,cY⟩:=aD;obtain⟨k1,k2,k3,k4,-,-⟩:=FR dK;have H1:=Z h1;have H2:=Z h2;obtain⟨a1,c1,rfl,-⟩:=id h1;obtain⟨a2,c2,rfl,-⟩:=id h2;clear h1 h2;obtain⟨N,hN⟩:∃N,N=rows.length*cols.length:=⟨_,rfl⟩;rw[←hN] at cY az;have mH:1≤N:=by rw[hN];exact Nat.mul_le_mul k1 k3
 have jo:(rows.length:Int)*(cols.length:Int)=(N:Int):=by rw[hN];simp
 have gK:=Up (n:=N) (by omega);obtain⟨P,hP⟩:∃P:Nat,P=2^N:=⟨_,rfl⟩;have hP4:P≤4096:=by rw[hP];exact Nat.pow_le_pow_right (n:=2) (by decide) cY
 have xu:1≤P:=by rw[hP];exact Nat.two_pow_pos N
 rw[←hP] at az gK;have jp:wrap64 ((2:Int)^N)=(P:Int):=gK;have ew:=Z dK;have HN:=Z hN;have fY:=Z az;clear dK hN hP gK az;go_enter Tryz.func115,Tryz.ntmps115;go_wp2_with (fail);refine(FM _ _ _ _ _ H1.o H2.o).mono ?_;rintro e w' ⟨rfl,rfl⟩;rw[ew.o];go_wp2;go_loopw [8,9,10,11,12,13] (fun nt least key _ _ _ wr=>∃k:Nat,k≤P∧key=.int .i64 k∧Below w.heap.size w wr∧((k=0∧nt=.slice none 0 0∧least=.int .i64 0)∨∃(b:Nat)(l:Int),Ei rows cols k=some (b,l)∧least=.int .i64 l∧(0≤l∧l≤40)∧A4 32 (A4 3 A7) (Iv w.heap.size wr.heap.size) wr nt (DU rows.length cols.length b))) (fun _ _ key _ _ _ _=>P-(intOf key).toNat)
 case atStart=>exact⟨0,Nat.zero_le _,rfl,Below.refl _ _,.inl ⟨rfl,rfl,rfl⟩⟩
 case round=>
  obtain⟨k,hk,rfl,aA,bE⟩:=hrel;obtain⟨wo,rfl⟩:∃wo:World,wo=wr:=⟨_,rfl⟩;have aJ:=Z bE;clear bE;by_cases aH:k<P
  ·go_wp2_with (fail);refine(K9 rows.length cols.length _ (by omega) (by omega)).mono ?_;rintro e w1 ⟨v1,rfl,aB,hbel1⟩;clear jp jo;have cX:=hbel1.size;obtain⟨G,cap,rfl,hG,hcapG,hGs,-⟩:=aB.inv_ne (by simp[Bv];omega);have gM:(Bv rows.length cols.length).length=rows.length:=by simp[Bv]
   rw[gM] at hcapG aB⊢;rw[←Zv rows.length cols.length k] at aB;have aC:=Z aB;clear aB gM;go_wp2;go_loopw [12] (fun nn wr=>∃n:Nat,n≤N∧nn=.int .i64 n∧A4 32 (A4 3 A7) (Iv wo.heap.size w1.heap.size) wr (.slice (some ⟨G,0,none⟩) rows.length cap) (JI rows.length cols.length k n)∧Below wo.heap.size wo wr∧w1.heap.size≤wr.heap.size) (fun nn _=>N-(intOf nn).toNat)
   case atStart=>exact⟨0,Nat.zero_le _,rfl,aC.o,hbel1,Nat.le_refl _⟩
   case round=>
    clear aC hbel1;obtain⟨n,hn,rfl,aB,aT,aI⟩:=hrel;by_cases hltn:n<N
    ·have sC:n<rows.length*cols.length:=by rw[←HN.o];exact hltn
     have lI:n/cols.length<rows.length:=by rw[Nat.div_lt_iff_lt_mul (by omega)];exact sC
     have fk:n % cols.length<cols.length:=Nat.mod_lt _ (by omega);have hq:=Mn (c:=cols.length) (key:=k) (n:=n) lI;obtain⟨q,cq,aM,-,hSq,hqG,di,hx,-,ap⟩:=AC aB hq (by simp;omega);have iR:((List.range cols.length).map fun x=>if n/cols.length*cols.length+x<n then D6 (rows.length*cols.length) k (n/cols.length*cols.length+x) else 0).length=cols.length:=by simp
     rw[iR] at aM di hx;obtain⟨⟨o,ke⟩,gN⟩:=hx (n % cols.length) fk;have bN:=ap wr (fun _ _=>rfl) (n % cols.length) (D6 (rows.length*cols.length) k n) (by rw[iR];exact fk) (BV.small (by have:=(IN (rows.length*cols.length) k n).1;omega) (by have:=(IN (rows.length*cols.length) k n).2;omega));rw[ZB (by omega) sC hq] at bN;have cJ:=Z bN;have cD:=hSq.1;have wq:(0:Int)≤(n:Int) / (cols.length:Int):=Int.ediv_nonneg (by omega) (by omega);have iS:(n:Int) / (cols.length:Int)<(rows.length:Int):=by rw[←Int.natCast_ediv];omega
     have ws:(0:Int)≤(n:Int) % (cols.length:Int):=Int.emod_nonneg _ (by omega);have wt:(n:Int) % (cols.length:Int)<(cols.length:Int):=Int.emod_lt_of_pos _ (by omega);clear aB hq hx ap iR bN;go_wp2
     go_region
     all_goals
      go_wp2;go_roundw
      case rel=>
       refine⟨n+1,by omega,by go_num,?_,(aT.setCell cD _).drew,by show w1.heap.size≤(wr.setCell _ _).heap.size;rw[A9];exact aI⟩;rw[A3z,HN.o];exact cJ.o
      case measure=>simp[intOf];omega
    ·obtain rfl:n=N:=by omega
     have bY:A4 32 (A4 3 A7) (Iv wo.heap.size wr.heap.size) wr (.slice (some ⟨G,0,none⟩) rows.length cap) (DU rows.length cols.length k):=by
      rw[←A2M,←HN.o];exact(A3 (A3 A2)).mono (fun b hb=>⟨hb.1,Nat.lt_of_lt_of_le hb.2 aI⟩) aB
     have aC:=Z bY;have iT:=aA.trans (aT.mono aA.size);have jK:wo.heap.size≤wr.heap.size:=aT.size;have wu:w.heap.size≤wo.heap.size:=aA.size;clear aB bY;go_wp2_with (fail);refine(A06 _ _ _ _ _ _ _ (H1.o.keep iT) (H2.o.keep iT) aC.o.grid).mono ?_;rintro e w3 ⟨rfl,bK⟩;have bO:wr.heap.size≤w3.heap.size:=bK.size;have jq:=iT.trans_pure bK (Nat.le_refl _);have qQ:=aT.trans_pure bK (Nat.le_refl _);have bL:A4 32 (A4 3 A7) (Iv w.heap.size w3.heap.size) w3 (.slice (some ⟨G,0,none⟩) rows.length cap) (DU rows.length cols.length k):=
      (A3 (A3 A2)).mono (fun b hb=>⟨by have:=hb.1;omega,by have:=hb.2;omega⟩) (A4.keep (A3 A2) aC.o bK (Nat.le_refl _))
     have cV:=Z bL;clear bL aC;have si:=Q4 (OF ew.o k);obtain⟨ch,hchE⟩:∃ch,ch=B7 rows cols (DU rows.length cols.length k):=⟨_,rfl⟩;rw[←hchE] at si⊢;obtain⟨mI,hch40⟩:=si;have ia:=Z hchE;clear hchE;rcases aJ.o with⟨rfl,rfl,rfl⟩|⟨b,l,eY,rfl,⟨gA,hl40⟩,ho⟩
     ·have cQ:=Z (IW (rows:=rows) (cols:=cols) (k:=0) rfl);go_wp2;go_roundw
      case rel=>exact⟨1,by omega,by go_num,jq,.inr ⟨0,ch,by rw[ia.o];exact cQ.o,rfl,⟨mI,hch40⟩,cV.o⟩⟩
      case measure=>exact A23 (k:=0) xu
     ·obtain⟨gb,cb,rfl,-⟩:=ho.inv_ne (by rw[P5];exact k1);have Ho:=Z ho;have i8:=Z eY;clear ho eY;by_cases hlt3:ch<l
      ·have cQ:=Z (Lb i8.o (by rw[←ia.o];exact hlt3));go_wp2;go_roundw
       case rel=>exact⟨k+1,by omega,by go_num,jq,.inr ⟨k,ch,by rw[ia.o];exact cQ.o,rfl,⟨mI,hch40⟩,cV.o⟩⟩
       case measure=>exact A23 aH
      ·have cQ:=Z (Ld i8.o (by rw[←ia.o];exact hlt3));go_wp2;go_roundw
       case rel=>exact⟨k+1,by omega,by go_num,jq,.inr ⟨b,l,cQ.o,rfl,⟨gA,hl40⟩,A4.grow (A3 A2) Ho.o (Nat.le_refl _) qQ⟩⟩
       case measure=>exact A23 aH
  ·obtain rfl:k=P:=by omega
   rcases aJ.o with⟨h0,-,-⟩|⟨b,l,eY,rfl,⟨gA,hl40⟩,ho⟩
   ·omega
   obtain⟨gb,cb,rfl,-⟩:=ho.inv_ne (by rw[P5];exact k1);have Hb:=Z (fY.o.trans eY);have Ho:=Z ho;clear ho eY;go_wp2;refine bodyPost_ret (v:=.tuple #[.slice (some ⟨gb,0,none⟩) (DU rows.length cols.length b).length cb,.int .i64 l,.bool true]) (by simp[results,Tryz.results115,go_sem]) rfl ⟨_,by rw[Hb.o];rfl,by rw[Hb.o];exact Ho.o,aA⟩
theorem QV(v1 v2:Value)(rows cols:List Int)(w:World)(h1:Ab w v1 rows)(h2:Ab w v2 cols):
  Calls Tryz.prog 115 #[v1,v2] w (JY w rows cols (BD rows cols)):=by
 cases h:G0 rows cols
 ·exact QK _ _ _ _ _ h1 h2 h
 ·exact QJ _ _ _ _ _ h1 h2 h
theorem Qy(v1 v2:Value)(rows cols:List Int)(w:World)(h1:Ab w v1 rows)(h2:Ab w v2 cols)(cU:G0 rows cols=false):
  Calls Tryz.prog 196 #[v1,v2] w (JY w rows cols (BD rows cols)):=by
 have az:BD rows cols=none:=by unfold BD;rw[cU];rfl
 rw[az];have H1:=Z h1;have H2:=Z h2;obtain⟨a1,c1,rfl,-⟩:=id h1;obtain⟨a2,c2,rfl,-⟩:=id h2;clear h1 h2 az;cases dK:DH rows cols
 ·have ew:=Z dK;clear dK cU;go_enter Tryz.func196,Tryz.ntmps196;go_wp2_with (fail);refine(FN _ _ _ _ _ H1.o H2.o).mono ?_;rintro e w' ⟨rfl,rfl⟩;rw[ew.o];go_wp2;refine bodyPost_ret (v:=.tuple #[.slice none 0 0,.int .i64 0,.bool false]) (by simp[results,Tryz.results196,go_sem]) rfl ⟨_,rfl,A4.nil _ _ _ _,Below.refl _ _⟩
 ·have ns:12<rows.length*cols.length:=by
   unfold G0 at cU;rw[dK] at cU;simpa using cU
  obtain⟨k1,k2,k3,k4,-,-⟩:=FR dK;obtain⟨N,hN⟩:∃N,N=rows.length*cols.length:=⟨_,rfl⟩;have xr:N≤16:=by rw[hN];exact Nat.mul_le_mul k2 k4
  rw[←hN] at ns;have jo:(rows.length:Int)*(cols.length:Int)=(N:Int):=by rw[hN];simp
  have ew:=Z dK;clear dK cU hN;go_enter Tryz.func196,Tryz.ntmps196;go_wp2_with (fail);refine(FN _ _ _ _ _ H1.o H2.o).mono ?_;rintro e w' ⟨rfl,rfl⟩;rw[ew.o];go_wp2;refine bodyPost_ret (v:=.tuple #[.slice none 0 0,.int .i64 0,.bool false]) (by simp[results,Tryz.results196,go_sem]) rfl ⟨_,rfl,A4.nil _ _ _ _,Below.refl _ _⟩
theorem QE(v1 v2:Value)(rows cols:List Int)(w:World)(h1:Ab w v1 rows)(h2:Ab w v2 cols)(aD:G0 rows cols=true):
  Calls Tryz.prog 196 #[v1,v2] w (JY w rows cols (BD rows cols)):=by
 have az:BD rows cols=Ei rows cols (2^(rows.length*cols.length)):=by unfold BD;rw[if_pos aD]
 unfold G0 at aD;rw[Bool.and_eq_true,decide_eq_true_eq] at aD;obtain⟨dK,cY⟩:=aD;obtain⟨k1,k2,k3,k4,-,-⟩:=FR dK;have H1:=Z h1;have H2:=Z h2;obtain⟨a1,c1,rfl,-⟩:=id h1;obtain⟨a2,c2,rfl,-⟩:=id h2;clear h1 h2;obtain⟨N,hN⟩:∃N,N=rows.length*cols.length:=⟨_,rfl⟩;rw[←hN] at cY az;have mH:1≤N:=by rw[hN];exact Nat.mul_le_mul k1 k3
 have jo:(rows.length:Int)*(cols.length:Int)=(N:Int):=by rw[hN];simp
 have gK:=Up (n:=N) (by omega);obtain⟨P,hP⟩:∃P:Nat,P=2^N:=⟨_,rfl⟩;have hP4:P≤4096:=by rw[hP];exact Nat.pow_le_pow_right (n:=2) (by decide) cY
 have xu:1≤P:=by rw[hP];exact Nat.two_pow_pos N
 rw[←hP] at az gK;have jp:wrap64 ((2:Int)^N)=(P:Int):=gK;have ew:=Z dK;have HN:=Z hN;have fY:=Z az;clear dK hN hP gK az;go_enter Tryz.func196,Tryz.ntmps196;go_wp2_with (fail);refine(FN _ _ _ _ _ H1.o H2.o).mono ?_;rintro e w' ⟨rfl,rfl⟩;rw[ew.o];go_wp2;go_loopw [7,8,9,10,11] (fun nt least key _ _ wr=>∃k:Nat,k≤P∧key=.int .i64 k∧Below w.heap.size w wr∧((k=0∧least=.int .i64 (-1))∨∃(b:Nat)(l:Int),Ei rows cols k=some (b,l)∧least=.int .i64 l∧(0≤l∧l≤40)∧A4 32 (A4 3 A7) (Iv w.heap.size wr.heap.size) wr nt (DU rows.length cols.length b))) (fun _ _ key _ _ _=>P-(intOf key).toNat)
 case atStart=>exact⟨0,Nat.zero_le _,rfl,Below.pureAlloc _ _,.inl ⟨rfl,rfl⟩⟩
 case round=>
  obtain⟨k,hk,rfl,aA,bE⟩:=hrel;obtain⟨wo,rfl⟩:∃wo:World,wo=wr:=⟨_,rfl⟩;have aJ:=Z bE;clear bE;by_cases aH:k<P
  ·go_wp2_with (fail);refine(T0 rows.length cols.length k _ (by omega) (by omega) (by omega) (by omega) (by omega)).mono ?_;rintro e w1 ⟨v1,rfl,aB,hbel1⟩;clear jp jo;have cX:wo.heap.size≤w1.heap.size:=hbel1.size;have wu:w.heap.size≤wo.heap.size:=aA.size;have iT:=aA.trans_pure hbel1 (Nat.le_refl _);have aC:=Z aB;clear aB;go_wp2_with (fail);refine(ZK _ _ _ _ _ _ _ (H1.o.keep iT) (H2.o.keep iT) aC.o.grid).mono ?_;rintro e w3 ⟨rfl,bK⟩;have bO:w1.heap.size≤w3.heap.size:=bK.size;have jq:=iT.trans_pure bK (Nat.le_refl _);have qQ:=hbel1.trans_pure bK (Nat.le_refl _);have bL:A4 32 (A4 3 A7) (Iv w.heap.size w3.heap.size) w3 v1 (DU rows.length cols.length k):=
    (A3 (A3 A2)).mono (fun b hb=>⟨by have:=hb.1;omega,by have:=hb.2;omega⟩) (A4.keep (A3 A2) aC.o bK (Nat.le_refl _))
   have cV:=Z bL;clear bL aC;have si:=Q4 (OF ew.o k);obtain⟨ch,hchE⟩:∃ch,ch=B7 rows cols (DU rows.length cols.length k):=⟨_,rfl⟩;rw[←hchE] at si⊢;obtain⟨mI,hch40⟩:=si;have ia:=Z hchE;clear hchE;rcases aJ.o with⟨rfl,rfl⟩|⟨b,l,eY,rfl,⟨gA,hl40⟩,ho⟩
   ·have cQ:=Z (IW (rows:=rows) (cols:=cols) (k:=0) rfl);go_wp2;go_roundw
    case rel=>exact⟨1,by omega,by go_num,jq,.inr ⟨0,ch,by rw[ia.o];exact cQ.o,rfl,⟨mI,hch40⟩,cV.o⟩⟩
    case measure=>exact A23 (k:=0) xu
   ·have Ho:=Z ho;have i8:=Z eY;clear ho eY;have qR:¬l<0:=by omega
    have hld:decide (l<0)=false:=by simp;omega
    by_cases hlt3:ch<l
    ·have cQ:=Z (Lb i8.o (by rw[←ia.o];exact hlt3));have pK:decide (ch<l)=true:=by simp;omega
     go_wp2;go_roundw
     case rel=>exact⟨k+1,by omega,by go_num,jq,.inr ⟨k,ch,by rw[ia.o];exact cQ.o,rfl,⟨mI,hch40⟩,cV.o⟩⟩
     case measure=>exact A23 aH
    ·have cQ:=Z (Ld i8.o (by rw[←ia.o];exact hlt3));have pK:decide (ch<l)=false:=by simp;omega
     go_wp2;go_roundw
     case rel=>exact⟨k+1,by omega,by go_num,jq,.inr ⟨b,l,cQ.o,rfl,⟨gA,hl40⟩,A4.grow (A3 A2) Ho.o (Nat.le_refl _) qQ⟩⟩
     case measure=>exact A23 aH
  ·obtain rfl:k=P:=by omega
   rcases aJ.o with⟨h0,-⟩|⟨b,l,eY,rfl,⟨gA,hl40⟩,ho⟩
   ·omega
   obtain⟨gb,cb,rfl,-⟩:=ho.inv_ne (by rw[P5];exact k1);have Hb:=Z (fY.o.trans eY);have Ho:=Z ho;clear ho eY;go_wp2;refine bodyPost_ret (v:=.tuple #[.slice (some ⟨gb,0,none⟩) (DU rows.length cols.length b).length cb,.int .i64 l,.bool true]) (by simp[results,Tryz.results196,go_sem]) rfl ⟨_,by rw[Hb.o];rfl,by rw[Hb.o];exact Ho.o,aA⟩
theorem Sy(v1 v2:Value)(rows cols:List Int)(w:World)(h1:Ab w v1 rows)(h2:Ab w v2 cols):
  Calls Tryz.prog 196 #[v1,v2] w (JY w rows cols (BD rows cols)):=by
 cases h:G0 rows cols
 ·exact Qy _ _ _ _ _ h1 h2 h
 ·exact QE _ _ _ _ _ h1 h2 h
theorem N5(m:List (List Int)):(A8 m).length≤5:=Fm _
def F5(rows cols:List Int):List Int:=A6 (Gg rows cols (BD rows cols))
def EW(rows cols:List Int):List Int:=A8 (Gg rows cols (BD rows cols))
theorem PX(rows cols:List Int):(F5 rows cols).length≤5:=Fm _
theorem Q2(rows cols:List Int):(EW rows cols).length≤5:=N5 _
theorem Wm(v1 v2:Value)(rows cols:List Int)(w:World)(h1:Ab w v1 rows)(h2:Ab w v2 cols):
  Calls Tryz.prog 53 #[v1,v2] w fun e w'=>∃(v1' v2':Value)(M:Nat),w.heap.size≤M∧M≤w'.heap.size∧e=.returned (.tuple #[v1',v2',.bool (BD rows cols).isSome])∧A4 3 A7 (Iv w.heap.size M) w' v1' (F5 rows cols)∧A4 3 A7 (Iv M w'.heap.size) w' v2' (EW rows cols)∧Below w.heap.size w w':=by
 go_enter Tryz.func53,Tryz.ntmps53;go_wp2_with (fail);refine(QV _ _ _ _ _ h1 h2).mono ?_;rintro e w1 ⟨v1,rfl,ho,aA⟩;have cX:=aA.size;cases hc:(BD rows cols).isSome
 ·have eN:BD rows cols=none:=by cases h:BD rows cols with|none=>rfl|some p=>rw[h] at hc;simp at hc
  have Hl:=Z (show F5 rows cols=[] from by unfold F5;rw[eN];rfl);have nu:=Z (show EW rows cols=[] from by unfold EW;rw[eN];rfl);clear eN ho;go_wp2;refine bodyPost_ret (v:=.tuple #[.slice none 0 0,.slice none 0 0,.bool false]) (by simp[results,Tryz.results53,go_sem]) rfl ⟨_,_,w1.heap.size,cX,Nat.le_refl _,by rw[hc],by rw[Hl.o];exact A4.nil _ _ _ _,by rw[nu.o];exact A4.nil _ _ _ _,aA⟩
 ·have Ho:=Z ho;clear ho;go_wp2_with (fail);refine(E7 _ _ _ Ho.o.grid).mono ?_;rintro e w2 ⟨v2,rfl,o2,b2⟩;have hs2:w1.heap.size≤w2.heap.size:=b2.size;have Hg:=Z (Ho.o.grid.keep b2);have cI:=aA.trans_pure b2 (Nat.le_refl _);have cu:=Z o2;clear o2;obtain⟨p1,p2,p3,rfl⟩:=cu.o.shape;go_wp2_with (fail);refine(EA _ _ _ Hg.o).mono ?_;rintro e w3 ⟨v3,rfl,o3,b3⟩;have bO:w2.heap.size≤w3.heap.size:=b3.size;have dd:=cI.trans_pure b3 (Nat.le_refl _);have cn:=Z o3;clear o3;obtain⟨q1,q2,q3,rfl⟩:=cn.o.shape;go_wp2;refine bodyPost_ret (v:=.tuple #[.slice p1 p2 p3,.slice q1 q2 q3,.bool true]) (by simp[results,Tryz.results53,go_sem]) rfl ⟨_,_,w2.heap.size,by omega,bO,by rw[hc],?_,cn.o,dd⟩;exact(A3 A2).mono (fun b hb=>⟨by have:=hb.1;omega,hb.2⟩) (A4.keep A2 cu.o b3 (Nat.le_refl _))
theorem VO(v1 v2:Value)(rows cols:List Int)(w:World)(h1:Ab w v1 rows)(h2:Ab w v2 cols):
  Calls Tryz.prog 135 #[v1,v2] w fun e w'=>∃(v1' v2':Value)(M:Nat),w.heap.size≤M∧M≤w'.heap.size∧e=.returned (.tuple #[v1',v2',.bool (BD rows cols).isSome])∧A4 3 A7 (Iv w.heap.size M) w' v1' (F5 rows cols)∧A4 3 A7 (Iv M w'.heap.size) w' v2' (EW rows cols)∧Below w.heap.size w w':=by
 go_enter Tryz.func135,Tryz.ntmps135;go_wp2_with (fail);refine(Sy _ _ _ _ _ h1 h2).mono ?_;rintro e w1 ⟨v1,rfl,ho,aA⟩;have cX:=aA.size;cases hc:(BD rows cols).isSome
 ·have eN:BD rows cols=none:=by cases h:BD rows cols with|none=>rfl|some p=>rw[h] at hc;simp at hc
  have Hl:=Z (show F5 rows cols=[] from by unfold F5;rw[eN];rfl);have nu:=Z (show EW rows cols=[] from by unfold EW;rw[eN];rfl);clear eN ho;go_wp2;refine bodyPost_ret (v:=.tuple #[.slice none 0 0,.slice none 0 0,.bool false]) (by simp[results,Tryz.results135,go_sem]) rfl ⟨_,_,w1.heap.size,cX,Nat.le_refl _,by rw[hc],by rw[Hl.o];exact A4.nil _ _ _ _,by rw[nu.o];exact A4.nil _ _ _ _,aA⟩
 ·have Ho:=Z ho;clear ho;go_wp2_with (fail);refine(FE _ _ _ Ho.o.grid).mono ?_;rintro e w2 ⟨v2,rfl,o2,b2⟩;have hs2:w1.heap.size≤w2.heap.size:=b2.size;have Hg:=Z (Ho.o.grid.keep b2);have cI:=aA.trans_pure b2 (Nat.le_refl _);have cu:=Z o2;clear o2;obtain⟨p1,p2,p3,rfl⟩:=cu.o.shape;go_wp2_with (fail);refine(GH _ _ _ Hg.o).mono ?_;rintro e w3 ⟨v3,rfl,o3,b3⟩;have bO:w2.heap.size≤w3.heap.size:=b3.size;have dd:=cI.trans_pure b3 (Nat.le_refl _);have cn:=Z o3;clear o3;obtain⟨q1,q2,q3,rfl⟩:=cn.o.shape;go_wp2;refine bodyPost_ret (v:=.tuple #[.slice p1 p2 p3,.slice q1 q2 q3,.bool true]) (by simp[results,Tryz.results135,go_sem]) rfl ⟨_,_,w2.heap.size,by omega,bO,by rw[hc],?_,cn.o,dd⟩;exact(A3 A2).mono (fun b hb=>⟨by have:=hb.1;omega,hb.2⟩) (A4.keep A2 cu.o b3 (Nat.le_refl _))

/- Base. -/
import Derived.Test.YthmocomfjgmjoaaGreatDoorQ04
import Derived.Test.YthmocomfjgmjoaaGreatDoorQ06
set_option maxHeartbeats 1600000
set_option maxRecDepth 100000
namespace Go.Proofs.YthmocomfjgmjoaaGreatDoor
open Go.RowKit Go.Proofs.Tryz
variable {b:Nat}{cols:U}{k:Nat}{l:Int}{rows:U}
theorem QA(n:Int)(w:World)(h1:-1048576≤n)(h2:n≤1048576):Calls prog 245 #[.int .i64 n] w fun e w'=>e=.returned (.int .i64 (RU n))∧w=w':=by
 go_enter func245,ntmps245;by_cases hn:n<0
 ·have H:=Z (show RU n=-n from by unfold RU;rw[if_pos hn]);go_wp2
  go_ret
  exact⟨CY (by rw[H.o]),rfl⟩
 ·have H:=Z (show RU n=n from by unfold RU;rw[if_neg hn]);go_wp2
  go_ret
  exact⟨CY (by rw[H.o]),rfl⟩
theorem WY(v v2:Value)(xs ys:U)(w:World)(hv:Au w v xs)(aS:Au w v2 ys)(hl:xs.length=ys.length)(h5:xs.length≤5)(hx:∀x∈xs,0≤x∧x≤5)(hy:∀x∈ys,0≤x∧x≤5):
  Calls prog 297 #[v,v2] w fun e w'=>e=.returned (.int .i64 (gap xs ys))∧Below w.heap.size w w':=by
 have Hv:=Z hv;have aY:=Z aS;obtain⟨a,cap,rfl,-⟩:=hv;obtain⟨a2,cap2,rfl,-⟩:=aS;have eJ:xs.length≤ys.length:=J;rw[←hl]at aY⊢;have Hl:=Z hl;clear hl;go_enter func297,ntmps297;go_wp2;go_loopw [5,6,7,10] (fun s _ _ i wr=>∃k:Nat,k≤xs.length∧i=.int .i64 k∧s=.int .i64 (JD xs ys k)∧Below w.heap.size w wr) (fun _ _ _ i _=>xs.length-(intOf i).toNat);exact⟨0,A7 _,rfl,rfl,A6 _ _⟩;obtain⟨k,hk,rfl,rfl,aA⟩:=hrel;have pz:=IT hx hy k;have g7:=pz.1;have kT:=pz.2;by_cases aF:k<xs.length
 ·obtain⟨x,hxk⟩:∃x,xs[k]? =some x:=⟨_,A3 aF⟩;obtain⟨y,hZ⟩:∃y,ys[k]? =some y:=⟨_,A3 J⟩;obtain⟨b,off,cpr,he,hb,-⟩:=Hv.o.qac J;obtain⟨rfl,-⟩:a=some ⟨b,off,none⟩∧cap=cpr:=by simpa using he
  obtain⟨b2,off2,cpr2,dX,af,-⟩:=aY.o.qac J;obtain⟨rfl,-⟩:a2=some ⟨b2,off2,none⟩∧cap2=cpr2:=by simp at dX;exact⟨dX.1,dX.2.2⟩
  have fK:=Au.at Hv.o hxk;have qA:=Au.at aY.o hZ;rw[←aA.cell (p:=⟨b,off+k,none⟩) hb]at fK;rw[←aA.cell (p:=⟨b2,off2+k,none⟩) af]at qA;have fq:=hx x (A4 hxk);have fj:=hy y (A4 hZ);have eR:=fq.1;have jU:=fq.2;have ja:=fj.1;have kq:=fj.2;have aG:=Z (Oe hxk hZ);clear hxk hZ he dX fq fj pz hx hy;by_cases bW:x<y
  ·have Hm:=Z (show RU (x-y)=y-x from by unfold RU;rw[if_pos J];omega);go_wp2
   go_region
   all_goals
    go_wp2;go_roundw;exact⟨k+1,J,by go_num,by rw[aG.o,Hm.o],below_drewN aA _⟩;exact Jv
  ·have Hm:=Z (show RU (x-y)=x-y from by unfold RU;rw[if_neg J]);go_wp2
   go_region
   all_goals
    go_wp2;go_roundw;exact⟨k+1,J,by go_num,by rw[aG.o,Hm.o],below_drewN aA _⟩;exact Jv
 ·obtain rfl:k=xs.length:=J;go_wp2
  go_ret
  exact⟨rfl,aA⟩
theorem Xa(v1 v2 v3:Value)(rows cols:U)(m:I)(w:World)(h1:Au w v1 rows)(h2:Au w v2 cols)(h3:AI w v3 m)(hbad:Ca rows cols m=false):
  Calls prog 174 #[v1,v2,v3] w fun e w'=>e=.returned (.int .i64 (Bs rows cols m))∧Below w.heap.size w w':=by
 have H1:=Z h1;have H2:=Z h2;have H3:=Z h3;obtain⟨a1,c1,rfl,-⟩:=id h1;obtain⟨a2,c2,rfl,-⟩:=id h2;obtain⟨a3,c3,rfl,-⟩:=id h3;clear h1 h2 h3;cases dA:DP rows cols
 ·have Hr:=Z (show Bs rows cols m=-1 from by simp[Bs,Ca,dA]);have eW:=Z dA;clear dA;go_enter func174,ntmps174;go_wp2_with fail;refine(FP _ _ _ _ _ H1.o H2.o).mono ?_;rintro e w' ⟨rfl,rfl⟩;rw[eW.o];go_wp2
  go_ret
  exact⟨CY Hr.o.symm,A6 _ _⟩
 cases him:AC m
 ·have Hr:=Z (show Bs rows cols m=-1 from by simp[Bs,Ca,him]);have eW:=Z dA;clear dA;have fk:=Z him;clear him;go_enter func174,ntmps174;go_wp2_with fail;refine(FP _ _ _ _ _ H1.o H2.o).mono ?_;rintro e w' ⟨rfl,rfl⟩;rw[eW.o];go_wp2_with fail;refine(B8 _ _ _ H3.o).mono ?_;rintro e w' ⟨rfl,rfl⟩;rw[fk.o];go_wp2
  go_ret
  exact⟨CY Hr.o.symm,A6 _ _⟩
 obtain⟨r,c,hr1,hr5,hc1,hc5,an⟩:=Az him;have bF:=an.1;obtain⟨ft,bE,hrl0,-⟩:=an.row (y:=0) J;obtain⟨b,off,cpr,he,hb,-⟩:=H3.o.qac J;obtain⟨rfl,-⟩:a3=some ⟨b,off,none⟩∧c3=cpr:=by simpa using he
 obtain⟨u0,hck0,eK⟩:=Sl.at H3.o bE;obtain⟨a0,cp0,rfl,-⟩:=eK;rw[hrl0,AF]at hck0;have dE:=an.head hr1;rw[bF]at H3⊢;have eW:=Z dA;have fk:=Z him;rcases(Decidable.em (r=rows.length)).symm with hlr|hlr
 ·have Hr:=Z (show Bs rows cols m=-1 from by simp[Bs,Ca,bF,hlr]);have aK:((r:Int)==(rows.length:Int))=false:=by rw[Ai];omega
  clear dA him bE he bF hrl0 dE;go_enter func174,ntmps174;go_wp2_with fail;refine(FP _ _ _ _ _ H1.o H2.o).mono ?_;rintro e w' ⟨rfl,rfl⟩;rw[eW.o];go_wp2_with fail;refine(B8 _ _ _ H3.o).mono ?_;rintro e w' ⟨rfl,rfl⟩;rw[fk.o];go_wp2
  go_ret
  exact⟨CY Hr.o.symm,A6 _ _⟩
 subst hlr;rcases(Decidable.em (c=cols.length)).symm with hlc|hlc
 ·have Hr:=Z (show Bs rows cols m=-1 from by unfold Bs Ca;rw[dE];simp[hlc]);have aK:((c:Int)==(cols.length:Int))=false:=by rw[Ai];omega
  clear dA him bE he bF hrl0 dE;go_enter func174,ntmps174;go_wp2_with fail;refine(FP _ _ _ _ _ H1.o H2.o).mono ?_;rintro e w' ⟨rfl,rfl⟩;rw[eW.o];go_wp2_with fail;refine(B8 _ _ _ H3.o).mono ?_;rintro e w' ⟨rfl,rfl⟩;rw[fk.o];go_wp2
  go_ret
  exact⟨CY Hr.o.symm,A6 _ _⟩
 subst hlc;exact absurd hbad (by unfold Ca;rw[dA,him,bF,dE];simp)
theorem Xo(v1 v2 v3:Value)(rows cols:U)(m:I)(w:World)(h1:Au w v1 rows)(h2:Au w v2 cols)(h3:AI w v3 m)(hok:Ca rows cols m=true):
  Calls prog 174 #[v1,v2,v3] w fun e w'=>e=.returned (.int .i64 (Bs rows cols m))∧Below w.heap.size w w':=by
 have H1:=Z h1;have H2:=Z h2;have H3:=Z h3;obtain⟨a1,c1,rfl,-⟩:=id h1;obtain⟨a2,c2,rfl,-⟩:=id h2;obtain⟨a3,c3,rfl,-⟩:=id h3;clear h1 h2 h3;obtain⟨r,c,HA⟩:=Ml hok;obtain⟨hr1,hr4,hc1,hc4,hrl',kt,an,eE,eL⟩:=HA;subst hrl' kt;have et:=hok;unfold Ca at et;simp only[Af,Ah]at et;obtain⟨⟨⟨dA,him⟩,bF⟩,dE⟩:=et;have hr5:rows.length≤5:=J;have hc5:cols.length≤5:=J;obtain⟨ft,bE,hrl0,-⟩:=an.row (y:=0) J;obtain⟨b,off,cpr,he,hb,-⟩:=H3.o.qac J;obtain⟨rfl,-⟩:a3=some ⟨b,off,none⟩∧c3=cpr:=by simpa using he
 obtain⟨u0,hck0,eK⟩:=Sl.at H3.o bE;obtain⟨a0,cp0,rfl,-⟩:=eK;rw[hrl0,AF]at hck0;rw[bF]at H3⊢;have eW:=Z dA;have fk:=Z him;have Hr:=Z (show Bs rows cols m=gap rows (Ae m)+gap cols (Al m)from by unfold Bs;rw[if_pos hok]);have na:=Cr an hr1 hr5 hc1 hc5;have dt:=Cv an hr1 hr5 hc1 hc5;have kT:=fun k=>IT eE na.2 k;have lr:=fun k=>IT eL dt.2 k;have aj:(Ae m).length=rows.length:=na.1;have ah:(Al m).length=cols.length:=dt.1;have iu:=Z aj;have fL:=Z ah;have sg:=Z kT;have fr:=Z lr;have yC:=Z na.2;have ry:=Z dt.2;have jb:=Z eE;have iK:=Z eL;clear dA him bE he bF hrl0 dE hok na dt kT lr aj ah eE eL;go_enter func174,ntmps174;go_wp2_with fail;refine(FP _ _ _ _ _ H1.o H2.o).mono ?_;rintro e w' ⟨rfl,rfl⟩;rw[eW.o];go_wp2_with fail;refine(B8 _ _ _ H3.o).mono ?_;rintro e w' ⟨rfl,rfl⟩;rw[fk.o];go_wp2_with fail;refine(Ei _ _ _ H3.o).mono ?_;rintro e w1 ⟨s1,rfl,o1,b1⟩;have K1:=Z o1.ints;obtain⟨p1,n1,q1,rfl⟩:=o1.shape;obtain rfl:=Au.len K1.o;rw[iu.o]at K1⊢;clear o1;go_wp2;go_loop [7,8,9,40] (fun s _ _ i=>∃k:Nat,k≤rows.length∧i=.int .i64 k∧s=.int .i64 (JD rows (Ae m) k)) (fun _ _ _ i=>rows.length-(intOf i).toNat);exact⟨0,A7 _,rfl,rfl⟩;obtain⟨k,hk,rfl,rfl⟩:=hrel;have g7:=(sg.o k).1;have kT:=(sg.o k).2;by_cases aF:k<rows.length
 ·obtain⟨x,hx⟩:∃x,rows[k]? =some x:=⟨_,A3 aF⟩;obtain⟨y,hy⟩:∃y,(Ae m)[k]? =some y:=⟨_,A3 (by rw[iu.o];exact aF)⟩;obtain⟨bx,offx,cpx,bK,hbx,-⟩:=H1.o.qac J;obtain⟨rfl,-⟩:a1=some ⟨bx,offx,none⟩∧c1=cpx:=by simpa using bK
  obtain⟨yD,offy,cpy,nc,du,-⟩:=K1.o.qac (by rw[iu.o];omega);obtain⟨rfl,-⟩:p1=some ⟨yD,offy,none⟩∧q1=cpy:=by simp at nc;exact⟨nc.1,nc.2.2⟩
  have fK:=Au.at H1.o hx;have qA:=Au.at K1.o hy;rw[←b1.cell (p:=⟨bx,offx+k,none⟩) hbx]at fK;have fq:=jb.o x (A4 hx);have fj:=yC.o y (A4 hy);have eR:=fq.1;have jU:=fq.2;have ja:=fj.1;have kq:=fj.2;have aG:=Z (Oe hx hy);have yE:=A3j (y-x);have xB:RU (y-x)≤5:=by unfold RU;split<;>omega
  have yF:=Z (A0t x y);clear hx hy bK nc fq fj;go_wp2_with (first|(go_at_call 245;refine(QA _ _ J J).mono ?_;rintro e w' ⟨rfl,rfl⟩))
  go_round
  exact⟨k+1,J,by go_num,by rw[aG.o,yF.o]⟩;exact Jv
 ·obtain rfl:k=rows.length:=J;have dM:decide ((rows.length:Int)<(rows.length:Int))=false:=Jj;go_wp2_with fail;refine(CQ 34 (.inl rfl) _ _ _ (H3.o.keep b1)).mono ?_;rintro e w2 ⟨s2,rfl,o2,b2⟩;have cI:=b1.qaa b2 (A2 _);have K2:=Z o2.ints;obtain⟨p2,n2,q2,rfl⟩:=o2.shape;obtain rfl:=Au.len K2.o;rw[fL.o]at K2⊢;clear o2;go_wp2;go_loop [7,10,11,58] (fun s _ _ i=>∃j:Nat,j≤cols.length∧i=.int .i64 j∧s=.int .i64 (JD rows (Ae m) rows.length+JD cols (Al m) j)) (fun _ _ _ i=>cols.length-(intOf i).toNat);exact⟨0,A7 _,rfl,by simp[JD]⟩;obtain⟨j,hj,rfl,rfl⟩:=hrel;have hh0:=(fr.o j).1;have hh1:=(fr.o j).2;by_cases hltj:j<cols.length
  ·obtain⟨x,hx⟩:∃x,cols[j]? =some x:=⟨_,A3 hltj⟩;obtain⟨y,hy⟩:∃y,(Al m)[j]? =some y:=⟨_,A3 (by rw[fL.o];exact hltj)⟩;obtain⟨bx,offx,cpx,bK,hbx,-⟩:=H2.o.qac J;obtain⟨rfl,-⟩:a2=some ⟨bx,offx,none⟩∧c2=cpx:=by simpa using bK
   obtain⟨yD,offy,cpy,nc,du,-⟩:=K2.o.qac (by rw[fL.o];omega);obtain⟨rfl,-⟩:p2=some ⟨yD,offy,none⟩∧q2=cpy:=by simp at nc;exact⟨nc.1,nc.2.2⟩
   have fK:=Au.at H2.o hx;have qA:=Au.at K2.o hy;rw[←cI.cell (p:=⟨bx,offx+j,none⟩) hbx]at fK;have fq:=iK.o x (A4 hx);have fj:=ry.o y (A4 hy);have eR:=fq.1;have jU:=fq.2;have ja:=fj.1;have kq:=fj.2;have aG:=Z (Oe hx hy);have yE:=A3j (y-x);have xB:RU (y-x)≤5:=by unfold RU;split<;>omega
   have yF:=Z (A0t x y);clear hx hy bK nc fq fj;go_wp2_with (first|(go_at_call 245;refine(QA _ _ J J).mono ?_;rintro e w' ⟨rfl,rfl⟩))
   go_round
   exact⟨j+1,J,by go_num,by rw[aG.o,yF.o];congr 1;omega⟩;exact Jv
  ·obtain rfl:j=cols.length:=J;go_wp2
   go_ret
   exact⟨CY (by rw[Hr.o];rfl),cI⟩
theorem Xb(v1 v2 v3:Value)(rows cols:U)(m:I)(w:World)(h1:Au w v1 rows)(h2:Au w v2 cols)(h3:AI w v3 m)(hbad:Ca rows cols m=false):
  Calls prog 264 #[v1,v2,v3] w fun e w'=>e=.returned (.int .i64 (Bs rows cols m))∧Below w.heap.size w w':=by
 have H1:=Z h1;have H2:=Z h2;have H3:=Z h3;obtain⟨a1,c1,rfl,-⟩:=id h1;obtain⟨a2,c2,rfl,-⟩:=id h2;obtain⟨a3,c3,rfl,-⟩:=id h3;clear h1 h2 h3;cases dA:DP rows cols
 ·have Hr:=Z (show Bs rows cols m=-1 from by simp[Bs,Ca,dA]);have eW:=Z dA;clear dA;go_enter func264,ntmps264;go_wp2_with fail;refine(FZ _ _ _ _ _ H1.o H2.o).mono ?_;rintro e w' ⟨rfl,rfl⟩;rw[eW.o];go_wp2
  go_ret
  exact⟨CY Hr.o.symm,A6 _ _⟩
 cases him:AC m
 ·have Hr:=Z (show Bs rows cols m=-1 from by simp[Bs,Ca,him]);have eW:=Z dA;clear dA;have fk:=Z him;clear him;go_enter func264,ntmps264;go_wp2_with fail;refine(FZ _ _ _ _ _ H1.o H2.o).mono ?_;rintro e w' ⟨rfl,rfl⟩;rw[eW.o];go_wp2_with fail;refine(Bh _ _ _ H3.o).mono ?_;rintro e w' ⟨rfl,rfl⟩;rw[fk.o];go_wp2
  go_ret
  exact⟨CY Hr.o.symm,A6 _ _⟩
 obtain⟨r,c,hr1,hr5,hc1,hc5,an⟩:=Az him;have bF:=an.1;obtain⟨ft,bE,hrl0,-⟩:=an.row (y:=0) J;obtain⟨b,off,cpr,he,hb,-⟩:=H3.o.qac J;obtain⟨rfl,-⟩:a3=some ⟨b,off,none⟩∧c3=cpr:=by simpa using he
 obtain⟨u0,hck0,eK⟩:=Sl.at H3.o bE;obtain⟨a0,cp0,rfl,-⟩:=eK;rw[hrl0,AF]at hck0;have dE:=an.head hr1;rw[bF]at H3⊢;have eW:=Z dA;have fk:=Z him;rcases(Decidable.em (r=rows.length)).symm with hlr|hlr
 ·have Hr:=Z (show Bs rows cols m=-1 from by simp[Bs,Ca,bF,hlr]);have aK:((r:Int)==(rows.length:Int))=false:=by rw[Ai];omega
  clear dA him bE he bF hrl0 dE;go_enter func264,ntmps264;go_wp2_with fail;refine(FZ _ _ _ _ _ H1.o H2.o).mono ?_;rintro e w' ⟨rfl,rfl⟩;rw[eW.o];go_wp2_with fail;refine(Bh _ _ _ H3.o).mono ?_;rintro e w' ⟨rfl,rfl⟩;rw[fk.o];go_wp2
  go_ret
  exact⟨CY Hr.o.symm,A6 _ _⟩
 subst hlr;rcases(Decidable.em (c=cols.length)).symm with hlc|hlc
 ·have Hr:=Z (show Bs rows cols m=-1 from by unfold Bs Ca;rw[dE];simp[hlc]);have aK:((c:Int)==(cols.length:Int))=false:=by rw[Ai];omega
  clear dA him bE he bF hrl0 dE;go_enter func264,ntmps264;go_wp2_with fail;refine(FZ _ _ _ _ _ H1.o H2.o).mono ?_;rintro e w' ⟨rfl,rfl⟩;rw[eW.o];go_wp2_with fail;refine(Bh _ _ _ H3.o).mono ?_;rintro e w' ⟨rfl,rfl⟩;rw[fk.o];go_wp2
  go_ret
  exact⟨CY Hr.o.symm,A6 _ _⟩
 subst hlc;exact absurd hbad (by unfold Ca;rw[dA,him,bF,dE];simp)
theorem XE(v1 v2 v3:Value)(rows cols:U)(m:I)(w:World)(h1:Au w v1 rows)(h2:Au w v2 cols)(h3:AI w v3 m)(hok:Ca rows cols m=true):
  Calls prog 264 #[v1,v2,v3] w fun e w'=>e=.returned (.int .i64 (Bs rows cols m))∧Below w.heap.size w w':=by
 have H1:=Z h1;have H2:=Z h2;have H3:=Z h3;obtain⟨a1,c1,rfl,-⟩:=id h1;obtain⟨a2,c2,rfl,-⟩:=id h2;obtain⟨a3,c3,rfl,-⟩:=id h3;clear h1 h2 h3;obtain⟨r,c,HA⟩:=Ml hok;obtain⟨hr1,hr4,hc1,hc4,hrl',kt,an,eE,eL⟩:=HA;subst hrl' kt;have et:=hok;unfold Ca at et;simp only[Af,Ah]at et;obtain⟨⟨⟨dA,him⟩,bF⟩,dE⟩:=et;have hr5:rows.length≤5:=J;have hc5:cols.length≤5:=J;obtain⟨ft,bE,hrl0,-⟩:=an.row (y:=0) J;obtain⟨b,off,cpr,he,hb,-⟩:=H3.o.qac J;obtain⟨rfl,-⟩:a3=some ⟨b,off,none⟩∧c3=cpr:=by simpa using he
 obtain⟨u0,hck0,eK⟩:=Sl.at H3.o bE;obtain⟨a0,cp0,rfl,-⟩:=eK;rw[hrl0,AF]at hck0;rw[bF]at H3⊢;have eW:=Z dA;have fk:=Z him;have Hr:=Z (show Bs rows cols m=gap rows (Ae m)+gap cols (Al m)from by unfold Bs;rw[if_pos hok]);have na:=Cr an hr1 hr5 hc1 hc5;have dt:=Cv an hr1 hr5 hc1 hc5;have kT:=fun k=>IT eE na.2 k;have lr:=fun k=>IT eL dt.2 k;have aj:(Ae m).length=rows.length:=na.1;have ah:(Al m).length=cols.length:=dt.1;have iu:=Z aj;have fL:=Z ah;have sg:=Z kT;have fr:=Z lr;have yC:=Z na.2;have ry:=Z dt.2;have jb:=Z eE;have iK:=Z eL;clear dA him bE he bF hrl0 dE hok na dt kT lr aj ah eE eL;go_enter func264,ntmps264;go_wp2_with fail;refine(FZ _ _ _ _ _ H1.o H2.o).mono ?_;rintro e w' ⟨rfl,rfl⟩;rw[eW.o];go_wp2_with fail;refine(Bh _ _ _ H3.o).mono ?_;rintro e w' ⟨rfl,rfl⟩;rw[fk.o];go_wp2_with fail;refine(FSa _ _ _ H3.o).mono ?_;rintro e w1 ⟨s1,rfl,o1,b1⟩;go_wp2_with fail;refine(WY _ _ _ _ _ (H1.o.keep b1) o1.ints iu.o.symm hr5 jb.o yC.o).mono ?_;rintro e w2 ⟨rfl,b2⟩;have cI:=b1.qaa b2 (A2 _);go_wp2_with fail;refine(CQ 141 (.inr rfl) _ _ _ (H3.o.keep cI)).mono ?_;rintro e w3 ⟨s3,rfl,o3,b3⟩;have di:=cI.qaa b3 (A2 _);go_wp2_with fail;refine(WY _ _ _ _ _ (H2.o.keep di) o3.ints fL.o.symm hc5 iK.o ry.o).mono ?_;rintro e w4 ⟨rfl,b4⟩;have eu:=di.qaa b4 (A2 _);have g1:=(sg.o rows.length).1;have g2:=(sg.o rows.length).2;have g3:=(fr.o cols.length).1;have g4:=(fr.o cols.length).2;have G1:0≤gap rows (Ae m):=g1;have G2:gap rows (Ae m)≤5*(rows.length:Int):=g2;have G3:0≤gap cols (Al m):=g3;have G4:gap cols (Al m)≤5*(cols.length:Int):=g4;clear g1 g2 g3 g4;go_wp2
 go_ret
 exact⟨CY Hr.o.symm,eu⟩
theorem Rn(F0:Nat)(eS:F0=174∨F0=264)(v1 v2 v3:Value)(rows cols:U)(m:I)(w:World)(h1:Au w v1 rows)(h2:Au w v2 cols)(h3:AI w v3 m):
  Calls prog F0 #[v1,v2,v3] w fun e w'=>e=.returned (.int .i64 (Bs rows cols m))∧Below w.heap.size w w':=by
 rcases eS with rfl|rfl
 all_goals
  cases h:Ca rows cols m
  ·first|exact Xa _ _ _ _ _ _ _ h1 h2 h3 h|exact Xb _ _ _ _ _ _ _ h1 h2 h3 h
  ·first|exact Xo _ _ _ _ _ _ _ h1 h2 h3 h|exact XE _ _ _ _ _ _ _ h1 h2 h3 h
theorem A0M{P:Nat}(h:k<P):P-(intOf (.int .i64 ((k:Int)+1))).toNat<P-(intOf (.int .i64 (k:Int))).toNat:=by simp[intOf];omega
theorem Uy{n:Nat}(h:n≤40):wrap64 ((2:Int)^n)=((2^n:Nat):Int):=by
 have h1:2^n≤2^40:=Nat.pow_le_pow_right (n:=2) Jq h;have h2:((2^n:Nat):Int)=(2:Int)^n:=Jj;rw[←h2];obtain⟨m,hm⟩:∃m:Nat,m=2^n:=⟨_,rfl⟩;rw[←hm]at h1⊢;unfold wrap64;omega
theorem Jk(h:Ez rows cols k=none):Ez rows cols (k+1)=some (k,Bs rows cols (E0 rows.length cols.length k)):=by simp only[Ez,h]
theorem LB(h:Ez rows cols k=some (b,l))(hl:Bs rows cols (E0 rows.length cols.length k)<l):Ez rows cols (k+1)=some (k,Bs rows cols (E0 rows.length cols.length k)):=by simp only[Ez,h];rw[if_pos hl]
theorem LC(h:Ez rows cols k=some (b,l))(hl:¬Bs rows cols (E0 rows.length cols.length k)<l):Ez rows cols (k+1)=some (b,l):=by simp only[Ez,h];rw[if_neg hl]
theorem PF(r c key:Nat):(E0 r c key).length=r:=by simp[E0,CG]
def Kb(w:World)(rows cols:U)(x:Option (Nat×Int))(e:Ending)(w':World):Prop:=
 ∃v',e=.returned (.tuple #[v',.int .i64 (A2h x),.bool x.isSome])∧Ag 32 (Ag 3 Ap) (Iv w.heap.size w'.heap.size) w' v' (Gs rows cols x)∧Below w.heap.size w w'
theorem QK(v1 v2:Value)(rows cols:U)(w:World)(h1:Au w v1 rows)(h2:Au w v2 cols)(hbad:Gj rows cols=false):
  Calls prog 115 #[v1,v2] w (Kb w rows cols (BW rows cols)):=by
 have ah:BW rows cols=none:=by unfold BW;rw[hbad];rfl
 rw[ah];have H1:=Z h1;have H2:=Z h2;obtain⟨a1,c1,rfl,-⟩:=id h1;obtain⟨a2,c2,rfl,-⟩:=id h2;clear h1 h2 ah;cases dA:DP rows cols
 ·have eW:=Z dA;clear dA hbad;go_enter func115,ntmps115;go_wp2_with fail;refine(FP _ _ _ _ _ H1.o H2.o).mono ?_;rintro e w' ⟨rfl,rfl⟩;rw[eW.o];go_wp2;refine Jz #[.slice none 0 0,.int .i64 0,.bool false] (by simp[results,results115,go_sem]) ⟨_,rfl,Ag.nil _ _ _ _,A6 _ _⟩
 ·have ox:12<rows.length*cols.length:=by
   unfold Gj at hbad;rw[dA]at hbad;simpa using hbad
  obtain⟨k1,k2,k3,k4,-,-⟩:=FR dA;obtain⟨N,hN⟩:∃N,N=rows.length*cols.length:=⟨_,rfl⟩;have yG:N≤16:=by rw[hN];exact Nat.mul_le_mul k2 k4
  rw[←hN]at ox;have jd:(rows.length:Int)*(cols.length:Int)=(N:Int):=by rw[hN];simp
  have eW:=Z dA;clear dA hbad hN;go_enter func115,ntmps115;go_wp2_with fail;refine(FP _ _ _ _ _ H1.o H2.o).mono ?_;rintro e w' ⟨rfl,rfl⟩;rw[eW.o];go_wp2;refine Jz #[.slice none 0 0,.int .i64 0,.bool false] (by simp[results,results115,go_sem]) ⟨_,rfl,Ag.nil _ _ _ _,A6 _ _⟩
theorem QZ(v1 v2:Value)(rows cols:U)(w:World)(h1:Au w v1 rows)(h2:Au w v2 cols)(hok:Gj rows cols=true):
  Calls prog 115 #[v1,v2] w (Kb w rows cols (BW rows cols)):=by
 have ah:BW rows cols=Ez rows cols (2^(rows.length*cols.length)):=by unfold BW;rw[if_pos hok]
 have yH:=fun(w:World) (a:Option Addr) (n c n' c':Nat)=>Lib.run_eql_slice_nil (P:=prog) w 31 32 a n c n' c' underlying31;unfold Gj at hok;rw[Af,Ah]at hok;obtain⟨dA,cJ⟩:=hok;obtain⟨k1,k2,k3,k4,-,-⟩:=FR dA;have H1:=Z h1;have H2:=Z h2;obtain⟨a1,c1,rfl,-⟩:=id h1;obtain⟨a2,c2,rfl,-⟩:=id h2;clear h1 h2;obtain⟨N,hN⟩:∃N,N=rows.length*cols.length:=⟨_,rfl⟩;rw[←hN]at cJ ah;have lu:1≤N:=by rw[hN];exact Nat.mul_le_mul k1 k3
 have jd:(rows.length:Int)*(cols.length:Int)=(N:Int):=by rw[hN];simp
 have fu:=Uy (n:=N) J;obtain⟨P,hP⟩:∃P:Nat,P=2^N:=⟨_,rfl⟩;have hP4:P≤4096:=by rw[hP];exact Nat.pow_le_pow_right (n:=2) Jq cJ
 have yI:1≤P:=by rw[hP];exact Nat.two_pow_pos N
 rw[←hP]at ah fu;have je:wrap64 ((2:Int)^N)=(P:Int):=fu;have eW:=Z dA;have HN:=Z hN;have fL:=Z ah;clear dA hN hP fu ah;go_enter func115,ntmps115;go_wp2_with fail;refine(FP _ _ _ _ _ H1.o H2.o).mono ?_;rintro e w' ⟨rfl,rfl⟩;rw[eW.o];go_wp2;go_loopw [8,9,10,11,12,13] (fun nf least key _ _ _ wr=>∃k:Nat,k≤P∧key=.int .i64 k∧Below w.heap.size w wr∧((k=0∧nf=.slice none 0 0∧least=.int .i64 0)∨∃(b:Nat)(l:Int),Ez rows cols k=some (b,l)∧least=.int .i64 l∧(0≤l∧l≤40)∧Ag 32 (Ag 3 Ap) (Iv w.heap.size wr.heap.size) wr nf (E0 rows.length cols.length b))) (fun _ _ key _ _ _ _=>P-(intOf key).toNat);exact⟨0,A7 _,rfl,A6 _ _,.inl ⟨rfl,rfl,rfl⟩⟩;obtain⟨k,hk,rfl,aA,bB⟩:=hrel;obtain⟨wo,rfl⟩:∃wo:World,wo=wr:=⟨_,rfl⟩;have aG:=Z bB;clear bB;by_cases aF:k<P
 ·go_wp2_with fail;refine(Kx rows.length cols.length _ J J).mono ?_;rintro e w1 ⟨v1,rfl,aB,hbel1⟩;clear je jd;have cQ:=hbel1.size;obtain⟨G,cap,rfl,hG,hcapG,hGs,-⟩:=aB.qac (by simp[BJ];omega);have iA:(BJ rows.length cols.length).length=rows.length:=by simp[BJ]
  rw[iA]at hcapG aB⊢;rw[←YW rows.length cols.length k]at aB;have aC:=Z aB;clear aB iA;go_wp2;go_loopw [12] (fun nn wr=>∃n:Nat,n≤N∧nn=.int .i64 n∧Ag 32 (Ag 3 Ap) (Iv wo.heap.size w1.heap.size) wr (.slice (some ⟨G,0,none⟩) rows.length cap) (Kh rows.length cols.length k n)∧Below wo.heap.size wo wr∧w1.heap.size≤wr.heap.size) (fun nn _=>N-(intOf nn).toNat);exact⟨0,A7 _,rfl,aC.o,hbel1,A2 _⟩;clear aC hbel1;obtain⟨n,hn,rfl,aB,hbel2,aM⟩:=hrel;by_cases hltn:n<N
  ·have rz:n<rows.length*cols.length:=by rw[←HN.o];exact hltn
   have ku:n/cols.length<rows.length:=by rw[Nat.div_lt_iff_lt_mul J];exact rz
   have f4:n % cols.length<cols.length:=Nat.mod_lt _ J;have hq:=MK (c:=cols.length) (key:=k) (n:=n) ku;obtain⟨q,cq,aH,-,hSq,hqG,dj,hx,-,ai⟩:=AV aB hq (by simp;omega);have jf:((List.range cols.length).map fun x=>if n/cols.length*cols.length+x<n then Dm (rows.length*cols.length) k (n/cols.length*cols.length+x)else 0).length=cols.length:=Jj;rw[jf]at aH dj hx;obtain⟨⟨o,kv⟩,g8⟩:=hx (n % cols.length) f4;have bH:=ai wr (fun _ _=>rfl) (n % cols.length) (Dm (rows.length*cols.length) k n) (by rw[jf];exact f4) (Cc.small (by have:=(J3 (rows.length*cols.length) k n).1;omega) (by have:=(J3 (rows.length*cols.length) k n).2;omega));rw[YY J rz hq]at bH;have bq:=Z bH;have gT:=hSq.1;have kU:(0:Int)≤(n:Int) / (cols.length:Int):=Int.ediv_nonneg J J;have iB:(n:Int) / (cols.length:Int)<(rows.length:Int):=by rw[←Int.natCast_ediv];omega
   have xC:(0:Int)≤(n:Int) % (cols.length:Int):=Int.emod_nonneg _ J;have xD:(n:Int) % (cols.length:Int)<(cols.length:Int):=Int.emod_lt_of_pos _ J;clear aB hq hx ai jf bH;go_wp2
   go_region
   all_goals
    go_wp2;go_roundw
    case rel=>
     refine⟨n+1,J,by go_num,?_,(hbel2.setCell gT _).drew,by show w1.heap.size≤(wr.setCell _ _).heap.size;rw[As];exact aM⟩;rw[A2H,HN.o];exact bq.o
    case measure=>exact Jv
  ·obtain rfl:n=N:=J;have bI:Ag 32 (Ag 3 Ap) (Iv wo.heap.size wr.heap.size) wr (.slice (some ⟨G,0,none⟩) rows.length cap) (E0 rows.length cols.length k):=by
    rw[←A0I,←HN.o];exact(Ab (Ab A8)).mono (fun b hb=>⟨hb.1,Aa hb.2 aM⟩) aB
   have aC:=Z bI;have iw:=aA.trans (hbel2.mono aA.size);have ix:wo.heap.size≤wr.heap.size:=hbel2.size;have yJ:w.heap.size≤wo.heap.size:=aA.size;clear aB bI;go_wp2_with fail;refine(Rn 174 (.inl rfl) _ _ _ _ _ _ _ (H1.o.keep iw) (H2.o.keep iw) aC.o.qag).mono ?_;rintro e w3 ⟨rfl,hbel3⟩;have d7:wr.heap.size≤w3.heap.size:=hbel3.size;have jg:=iw.qaa hbel3 (A2 _);have qB:=hbel2.qaa hbel3 (A2 _);have bC:Ag 32 (Ag 3 Ap) (Iv w.heap.size w3.heap.size) w3 (.slice (some ⟨G,0,none⟩) rows.length cap) (E0 rows.length cols.length k):=
    (Ab (Ab A8)).mono (fun b hb=>⟨by have:=hb.1;omega,by have:=hb.2;omega⟩) (Ag.keep (Ab A8) aC.o hbel3 (A2 _))
   have cG:=Z bC;clear bC aC;have si:=Q0 (Oo eW.o k);obtain⟨ch,hchE⟩:∃ch,ch=Bs rows cols (E0 rows.length cols.length k):=⟨_,rfl⟩;rw[←hchE]at si⊢;obtain⟨lw,hch40⟩:=si;have iL:=Z hchE;clear hchE;rcases aG.o with⟨rfl,rfl,rfl⟩|⟨b,l,eL,rfl,⟨gU,hl40⟩,ho⟩
   ·have cC:=Z (Jk (rows:=rows) (cols:=cols) (k:=0) rfl);go_wp2;go_roundw
    case rel=>exact⟨1,J,by go_num,jg,.inr ⟨0,ch,by rw[iL.o];exact cC.o,rfl,⟨lw,hch40⟩,cG.o⟩⟩
    case measure=>exact A0M (k:=0) yI
   ·obtain⟨gb,cb,rfl,-⟩:=ho.qac (by rw[PF];exact k1);have Ho:=Z ho;have iK:=Z eL;clear ho eL;by_cases hlt3:ch<l
    ·have cC:=Z (LB iK.o (by rw[←iL.o];exact hlt3));go_wp2;go_roundw
     case rel=>exact⟨k+1,J,by go_num,jg,.inr ⟨k,ch,by rw[iL.o];exact cC.o,rfl,⟨lw,hch40⟩,cG.o⟩⟩
     case measure=>exact A0M aF
    ·have cC:=Z (LC iK.o (by rw[←iL.o];exact hlt3));go_wp2;go_roundw
     case rel=>exact⟨k+1,J,by go_num,jg,.inr ⟨b,l,cC.o,rfl,⟨gU,hl40⟩,Ag.grow (Ab A8) Ho.o (A2 _) qB⟩⟩
     case measure=>exact A0M aF
 ·obtain rfl:k=P:=J;rcases aG.o with⟨h0,-,-⟩|⟨b,l,eL,rfl,⟨gU,hl40⟩,ho⟩
  ·omega
  obtain⟨gb,cb,rfl,-⟩:=ho.qac (by rw[PF];exact k1);have Hb:=Z (fL.o.trans eL);have Ho:=Z ho;clear ho eL;go_wp2;refine Jz #[.slice (some ⟨gb,0,none⟩) (E0 rows.length cols.length b).length cb,.int .i64 l,.bool true] (by simp[results,results115,go_sem]) ⟨_,by rw[Hb.o];rfl,by rw[Hb.o];exact Ho.o,aA⟩
theorem SO(v1 v2:Value)(rows cols:U)(w:World)(h1:Au w v1 rows)(h2:Au w v2 cols):
  Calls prog 115 #[v1,v2] w (Kb w rows cols (BW rows cols)):=by
 cases h:Gj rows cols
 ·exact QK _ _ _ _ _ h1 h2 h
 ·exact QZ _ _ _ _ _ h1 h2 h
theorem QQ(v1 v2:Value)(rows cols:U)(w:World)(h1:Au w v1 rows)(h2:Au w v2 cols)(hbad:Gj rows cols=false):
  Calls prog 196 #[v1,v2] w (Kb w rows cols (BW rows cols)):=by
 have ah:BW rows cols=none:=by unfold BW;rw[hbad];rfl
 rw[ah];have H1:=Z h1;have H2:=Z h2;obtain⟨a1,c1,rfl,-⟩:=id h1;obtain⟨a2,c2,rfl,-⟩:=id h2;clear h1 h2 ah;cases dA:DP rows cols
 ·have eW:=Z dA;clear dA hbad;go_enter func196,ntmps196;go_wp2_with fail;refine(FZ _ _ _ _ _ H1.o H2.o).mono ?_;rintro e w' ⟨rfl,rfl⟩;rw[eW.o];go_wp2;refine Jz #[.slice none 0 0,.int .i64 0,.bool false] (by simp[results,results196,go_sem]) ⟨_,rfl,Ag.nil _ _ _ _,A6 _ _⟩
 ·have ox:12<rows.length*cols.length:=by
   unfold Gj at hbad;rw[dA]at hbad;simpa using hbad
  obtain⟨k1,k2,k3,k4,-,-⟩:=FR dA;obtain⟨N,hN⟩:∃N,N=rows.length*cols.length:=⟨_,rfl⟩;have yG:N≤16:=by rw[hN];exact Nat.mul_le_mul k2 k4
  rw[←hN]at ox;have jd:(rows.length:Int)*(cols.length:Int)=(N:Int):=by rw[hN];simp
  have eW:=Z dA;clear dA hbad hN;go_enter func196,ntmps196;go_wp2_with fail;refine(FZ _ _ _ _ _ H1.o H2.o).mono ?_;rintro e w' ⟨rfl,rfl⟩;rw[eW.o];go_wp2;refine Jz #[.slice none 0 0,.int .i64 0,.bool false] (by simp[results,results196,go_sem]) ⟨_,rfl,Ag.nil _ _ _ _,A6 _ _⟩
theorem QU(v1 v2:Value)(rows cols:U)(w:World)(h1:Au w v1 rows)(h2:Au w v2 cols)(hok:Gj rows cols=true):
  Calls prog 196 #[v1,v2] w (Kb w rows cols (BW rows cols)):=by
 have ah:BW rows cols=Ez rows cols (2^(rows.length*cols.length)):=by unfold BW;rw[if_pos hok]
 unfold Gj at hok;rw[Af,Ah]at hok;obtain⟨dA,cJ⟩:=hok;obtain⟨k1,k2,k3,k4,-,-⟩:=FR dA;have H1:=Z h1;have H2:=Z h2;obtain⟨a1,c1,rfl,-⟩:=id h1;obtain⟨a2,c2,rfl,-⟩:=id h2;clear h1 h2;obtain⟨N,hN⟩:∃N,N=rows.length*cols.length:=⟨_,rfl⟩;rw[←hN]at cJ ah;have lu:1≤N:=by rw[hN];exact Nat.mul_le_mul k1 k3
 have jd:(rows.length:Int)*(cols.length:Int)=(N:Int):=by rw[hN];simp
 have fu:=Uy (n:=N) J;obtain⟨P,hP⟩:∃P:Nat,P=2^N:=⟨_,rfl⟩;have hP4:P≤4096:=by rw[hP];exact Nat.pow_le_pow_right (n:=2) Jq cJ
 have yI:1≤P:=by rw[hP];exact Nat.two_pow_pos N
 rw[←hP]at ah fu;have je:wrap64 ((2:Int)^N)=(P:Int):=fu;have eW:=Z dA;have HN:=Z hN;have fL:=Z ah;clear dA hN hP fu ah;go_enter func196,ntmps196;go_wp2_with fail;refine(FZ _ _ _ _ _ H1.o H2.o).mono ?_;rintro e w' ⟨rfl,rfl⟩;rw[eW.o];go_wp2;go_loopw [7,8,9,10,11] (fun nf least key _ _ wr=>∃k:Nat,k≤P∧key=.int .i64 k∧Below w.heap.size w wr∧((k=0∧least=.int .i64 (-1))∨∃(b:Nat)(l:Int),Ez rows cols k=some (b,l)∧least=.int .i64 l∧(0≤l∧l≤40)∧Ag 32 (Ag 3 Ap) (Iv w.heap.size wr.heap.size) wr nf (E0 rows.length cols.length b))) (fun _ _ key _ _ _=>P-(intOf key).toNat);exact⟨0,A7 _,rfl,Below.qab _ _,.inl ⟨rfl,rfl⟩⟩;obtain⟨k,hk,rfl,aA,bB⟩:=hrel;obtain⟨wo,rfl⟩:∃wo:World,wo=wr:=⟨_,rfl⟩;have aG:=Z bB;clear bB;by_cases aF:k<P
 ·go_wp2_with fail;refine(SE rows.length cols.length k _ J J J J J).mono ?_;rintro e w1 ⟨v1,rfl,aB,hbel1⟩;clear je jd;have cQ:wo.heap.size≤w1.heap.size:=hbel1.size;have yJ:w.heap.size≤wo.heap.size:=aA.size;have iw:=aA.qaa hbel1 (A2 _);have aC:=Z aB;clear aB;go_wp2_with fail;refine(Rn 264 (.inr rfl) _ _ _ _ _ _ _ (H1.o.keep iw) (H2.o.keep iw) aC.o.qag).mono ?_;rintro e w3 ⟨rfl,hbel3⟩;have d7:w1.heap.size≤w3.heap.size:=hbel3.size;have jg:=iw.qaa hbel3 (A2 _);have qB:=hbel1.qaa hbel3 (A2 _);have bC:Ag 32 (Ag 3 Ap) (Iv w.heap.size w3.heap.size) w3 v1 (E0 rows.length cols.length k):=
   (Ab (Ab A8)).mono (fun b hb=>⟨by have:=hb.1;omega,by have:=hb.2;omega⟩) (Ag.keep (Ab A8) aC.o hbel3 (A2 _))
  have cG:=Z bC;clear bC aC;have si:=Q0 (Oo eW.o k);obtain⟨ch,hchE⟩:∃ch,ch=Bs rows cols (E0 rows.length cols.length k):=⟨_,rfl⟩;rw[←hchE]at si⊢;obtain⟨lw,hch40⟩:=si;have iL:=Z hchE;clear hchE;rcases aG.o with⟨rfl,rfl⟩|⟨b,l,eL,rfl,⟨gU,hl40⟩,ho⟩
  ·have cC:=Z (Jk (rows:=rows) (cols:=cols) (k:=0) rfl);go_wp2;go_roundw
   case rel=>exact⟨1,J,by go_num,jg,.inr ⟨0,ch,by rw[iL.o];exact cC.o,rfl,⟨lw,hch40⟩,cG.o⟩⟩
   case measure=>exact A0M (k:=0) yI
  ·have Ho:=Z ho;have iK:=Z eL;clear ho eL;have qC:¬l<0:=J;have hld:decide (l<0)=false:=by simp;omega
   by_cases hlt3:ch<l
   ·have cC:=Z (LB iK.o (by rw[←iL.o];exact hlt3));have oy:decide (ch<l)=true:=by simp;omega
    go_wp2;go_roundw
    case rel=>exact⟨k+1,J,by go_num,jg,.inr ⟨k,ch,by rw[iL.o];exact cC.o,rfl,⟨lw,hch40⟩,cG.o⟩⟩
    case measure=>exact A0M aF
   ·have cC:=Z (LC iK.o (by rw[←iL.o];exact hlt3));have oy:decide (ch<l)=false:=by simp;omega
    go_wp2;go_roundw
    case rel=>exact⟨k+1,J,by go_num,jg,.inr ⟨b,l,cC.o,rfl,⟨gU,hl40⟩,Ag.grow (Ab A8) Ho.o (A2 _) qB⟩⟩
    case measure=>exact A0M aF
 ·obtain rfl:k=P:=J;rcases aG.o with⟨h0,-⟩|⟨b,l,eL,rfl,⟨gU,hl40⟩,ho⟩
  ·omega
  obtain⟨gb,cb,rfl,-⟩:=ho.qac (by rw[PF];exact k1);have Hb:=Z (fL.o.trans eL);have Ho:=Z ho;clear ho eL;go_wp2;refine Jz #[.slice (some ⟨gb,0,none⟩) (E0 rows.length cols.length b).length cb,.int .i64 l,.bool true] (by simp[results,results196,go_sem]) ⟨_,by rw[Hb.o];rfl,by rw[Hb.o];exact Ho.o,aA⟩
theorem SG(v1 v2:Value)(rows cols:U)(w:World)(h1:Au w v1 rows)(h2:Au w v2 cols):
  Calls prog 196 #[v1,v2] w (Kb w rows cols (BW rows cols)):=by
 cases h:Gj rows cols
 ·exact QQ _ _ _ _ _ h1 h2 h
 ·exact QU _ _ _ _ _ h1 h2 h
theorem Na(m:I):(Al m).length≤5:=Fv _
def GZ(rows cols:U):U:=Ae (Gs rows cols (BW rows cols))
def GY(rows cols:U):U:=Al (Gs rows cols (BW rows cols))
theorem Q3(rows cols:U):(GZ rows cols).length≤5:=Fv _
theorem Q7(rows cols:U):(GY rows cols).length≤5:=Na _
theorem On(F0:Nat)(eS:F0=53∨F0=135)(v1 v2:Value)(rows cols:U)(w:World)(h1:Au w v1 rows)(h2:Au w v2 cols):
  Calls prog F0 #[v1,v2] w fun e w'=>∃(v1' v2':Value)(M:Nat),w.heap.size≤M∧M≤w'.heap.size∧e=.returned (.tuple #[v1',v2',.bool (BW rows cols).isSome])∧Ag 3 Ap (Iv w.heap.size M) w' v1' (GZ rows cols)∧Ag 3 Ap (Iv M w'.heap.size) w' v2' (GY rows cols)∧Below w.heap.size w w':=by
 rcases eS with rfl|rfl
 all_goals
  first|go_enter func53,ntmps53|go_enter func135,ntmps135
  go_wp2_with fail
  first|(go_at_call 115;refine(SO _ _ _ _ _ h1 h2).mono ?_)|(refine(SG _ _ _ _ _ h1 h2).mono ?_)
  rintro e w1 ⟨v1,rfl,ho,aA⟩;have cQ:=aA.size;cases hc:(BW rows cols).isSome
  ·have f8:BW rows cols=none:=by cases h:BW rows cols with|none=>rfl|some p=>rw[h]at hc;simp at hc
   have Hl:=Z (show GZ rows cols=[]from by unfold GZ;rw[f8];rfl);have qD:=Z (show GY rows cols=[]from by unfold GY;rw[f8];rfl);clear f8 ho;go_wp2;refine Jz #[.slice none 0 0,.slice none 0 0,.bool false] (by simp[results,results53,results135,go_sem]) ⟨_,_,w1.heap.size,cQ,A2 _,by rw[hc],by rw[Hl.o];exact Ag.nil _ _ _ _,by rw[qD.o];exact Ag.nil _ _ _ _,aA⟩
  ·have Ho:=Z ho;clear ho;go_wp2_with fail
   first|(go_at_call 33;refine(Ei _ _ _ Ho.o.qag).mono ?_)|(refine(FSa _ _ _ Ho.o.qag).mono ?_)
   rintro e w2 ⟨v2,rfl,o2,b2⟩;have hs2:w1.heap.size≤w2.heap.size:=b2.size;have Hg:=Z (Ho.o.qag.keep b2);have cI:=aA.qaa b2 (A2 _);have dB:=Z o2;clear o2;obtain⟨p1,p2,p3,rfl⟩:=dB.o.shape;go_wp2_with fail;refine(CQ _ Jq _ _ _ Hg.o).mono ?_;rintro e w3 ⟨v3,rfl,o3,b3⟩;have d7:w2.heap.size≤w3.heap.size:=b3.size;have di:=cI.qaa b3 (A2 _);have cY:=Z o3;clear o3;obtain⟨q1,q2,q3,rfl⟩:=cY.o.shape;go_wp2;refine Jz #[.slice p1 p2 p3,.slice q1 q2 q3,.bool true] (by simp[results,results53,results135,go_sem]) ⟨_,_,w2.heap.size,J,d7,by rw[hc],?_,cY.o,di⟩;exact(Ab A8).mono (fun b hb=>⟨by have:=hb.1;omega,hb.2⟩) (Ag.keep A8 dB.o b3 (A2 _))
